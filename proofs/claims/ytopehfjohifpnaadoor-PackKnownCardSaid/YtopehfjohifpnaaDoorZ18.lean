import Derived.Test.YtopehfjohifpnaaDoorZ3
import Derived.Test.YtopehfjohifpnaaDoorZ15
import Derived.Test.YtopehfjohifpnaaDoorZ17
section
namespace Go.Proofs.YtopehfjohifpnaaDoor.Doc
open Go.RowKit Go.Proofs.YtopehfjohifpnaaDoorW.PrintWords Go.Proofs.YtopehfjohifpnaaDoorW.PrintLast Go.Proofs.YtopehfjohifpnaaDoorW.PrintMore
attribute [local go_sem] max2_int min2_int max_two min_two max_three min_three max_four min_four
set_option linter.unusedVariables false
set_option linter.unusedSimpArgs false
def tabularylaw12_folder.f (a0 : ByteArray) : Option (ByteArray × Int × Int × Int × List Int × ByteArray) := some (a0, 2, 0, 0, ([] : List Int), (⟨#[]⟩ : ByteArray))
set_option maxHeartbeats 8000000 in
set_option maxRecDepth 100000 in
theorem tabularylaw12_folder.calls (a0 : ByteArray) (r1 : ByteArray) (r2 : Int) (r3 : Int) (r4 : Int) (r5 : List Int) (r6 : ByteArray) (w : World) (h : tabularylaw12_folder.f a0 = some (r1, r2, r3, r4, r5, r6)) :
  Calls Tryd.prog 13 #[.string a0] w fun e w' => ∃ v4_ : Value, e = .returned (.agg #[.string r1, .int .u8 r2, .int .i64 r3, .int .i64 r4, v4_, .string r6]) ∧ Kd.R (Kd.int .u8) 5 w' w.heap.size (fun _ => True) v4_ r5 ∧ Below w.heap.size w w' := by
 have hu25 := Tryd.underlying25
 have HB := Aside0.mk (Below.refl w.heap.size w)
 have H : (some (a0, 2, 0, 0, ([] : List Int), (⟨#[]⟩ : ByteArray))) = some (r1, r2, r3, r4, r5, r6) := h
 clear h
 simp only [Option.some.injEq, Prod.mk.injEq] at H
 obtain ⟨rfl, rfl, rfl, rfl, rfl, rfl⟩ := H
 go_enter Tryd.func13, Tryd.ntmps13
 go_wp2_with (first | ((with_reducible refine gate_dst (N := 2) rfl ?_); refine box_event ?hg (N := 2) ?hd (cs := #[.string (⟨#[]⟩ : ByteArray), .int .u8 0, .int .i64 0, .int .i64 0, .slice none 0 0, .string (⟨#[]⟩ : ByteArray)]) (t := 25) ?hr ?_; (case hd => rfl); (case hg => rfl); (case hr => first | (go_simp; done) | (go_simp; rfl)); intro gb157 hg w2 hbox hb; have n0_ := Aside0.mk (below_step (hb_) hb); have n1_ := Aside0.mk (hbox); have n2_ := Aside0.mk ((by rw [hg]; exact (below_size (hb_)) : w.heap.size ≤ gb157)); have n3_ := Aside0.mk ((by rw [hg]; exact (below_size (hb_)) : w.heap.size ≤ gb157)); clear HB; have HB := n0_; have BK157 := n1_; have GW157 := n2_; have GE157 := n3_; clear n0_ n1_ n2_ n3_; clear hb hbox hg; have hcz3_0 : w2.cell? ⟨gb157, 0, none⟩ = some (.string (⟨#[]⟩ : ByteArray)) := (blk_cell BK157.out 0).trans rfl; have hcz3_1 : w2.cell? ⟨gb157, 1, none⟩ = some (.int .u8 0) := (blk_cell BK157.out 1).trans rfl; have hcz3_2 : w2.cell? ⟨gb157, 2, none⟩ = some (.int .i64 0) := (blk_cell BK157.out 2).trans rfl; have hcz3_3 : w2.cell? ⟨gb157, 3, none⟩ = some (.int .i64 0) := (blk_cell BK157.out 3).trans rfl; have hcz3_4 : w2.cell? ⟨gb157, 4, none⟩ = some (.slice none 0 0) := (blk_cell BK157.out 4).trans rfl; have hcz3_5 : w2.cell? ⟨gb157, 5, none⟩ = some (.string (⟨#[]⟩ : ByteArray)) := (blk_cell BK157.out 5).trans rfl; have hfz3_0 := blk_frozen BK157.out 0; have hfz3_1 := blk_frozen BK157.out 1; have hfz3_2 := blk_frozen BK157.out 2; have hfz3_3 := blk_frozen BK157.out 3; have hfz3_4 := blk_frozen BK157.out 4; have hfz3_5 := blk_frozen BK157.out 5))
 refine bodyPost_ret (results_cell_row rfl _ _ gb157 25 #[.string a0, .int .u8 2, .int .i64 0, .int .i64 0, .slice none 0 0, .string (⟨#[]⟩ : ByteArray)] (0, 0) _ rfl (by (with_reducible repeat (first | refine blk_drewN ?_ _ | refine blk_drew ?_ | refine blk_alloc ?_ _)); refine blk_put (cs := #[.string a0, .int .u8 2, .int .i64 0, .int .i64 0, .slice none 0 0, .string (⟨#[]⟩ : ByteArray)]) ?_ 5 _ rfl; (with_reducible repeat (first | refine blk_drewN ?_ _ | refine blk_drew ?_ | refine blk_alloc ?_ _)); refine blk_put (cs := #[.string a0, .int .u8 2, .int .i64 0, .int .i64 0, .slice none 0 0, .string (⟨#[]⟩ : ByteArray)]) ?_ 4 _ rfl; (with_reducible repeat (first | refine blk_drewN ?_ _ | refine blk_drew ?_ | refine blk_alloc ?_ _)); refine blk_put (cs := #[.string a0, .int .u8 2, .int .i64 0, .int .i64 0, .slice none 0 0, .string (⟨#[]⟩ : ByteArray)]) ?_ 3 _ rfl; (with_reducible repeat (first | refine blk_drewN ?_ _ | refine blk_drew ?_ | refine blk_alloc ?_ _)); refine blk_put (cs := #[.string a0, .int .u8 2, .int .i64 0, .int .i64 0, .slice none 0 0, .string (⟨#[]⟩ : ByteArray)]) ?_ 2 _ rfl; (with_reducible repeat (first | refine blk_drewN ?_ _ | refine blk_drew ?_ | refine blk_alloc ?_ _)); refine blk_put (cs := #[.string a0, .int .u8 0, .int .i64 0, .int .i64 0, .slice none 0 0, .string (⟨#[]⟩ : ByteArray)]) ?_ 1 _ rfl; (with_reducible repeat (first | refine blk_drewN ?_ _ | refine blk_drew ?_ | refine blk_alloc ?_ _)); refine blk_put (cs := #[.string (⟨#[]⟩ : ByteArray), .int .u8 0, .int .i64 0, .int .i64 0, .slice none 0 0, .string (⟨#[]⟩ : ByteArray)]) ?_ 0 _ rfl; (with_reducible repeat (first | refine blk_drewN ?_ _ | refine blk_drew ?_ | refine blk_alloc ?_ _)); exact BK157.out) Tryd.underlying25 rfl (by kernel_rfl)) rfl ?_
 exact ⟨_, er_, by first | exact Kd.R_nil _ _ _ _ _ | exact Kd.N_nil _ _ _ _ _ | exact Kd.V_nil _ _ _ _ _ | exact Kd.Q_nil _ _ _ _ _ | exact Kd.S_nil _ _ _ _ _, by repeat (first | (with_reducible first | exact HB.out | apply below_alloc | apply pw_below_drewN | apply below_drew1 | refine below_set ?_ GE157.out) | exact HB.out)⟩
def tabularylaw12_file.f (a0 : ByteArray) (a1 : Int) : Option (ByteArray × Int × Int × Int × List Int × ByteArray) := if 0 ≤ a1 then (if (a1 : Int).toNat ≤ 281474976710656 then (some (a0, 1, 0, 0, (List.replicate (a1 : Int).toNat 0), (⟨#[]⟩ : ByteArray))) else (none)) else (none)
set_option maxHeartbeats 8000000 in
set_option maxRecDepth 100000 in
theorem tabularylaw12_file.calls (a0 : ByteArray) (a1 : Int) (r1 : ByteArray) (r2 : Int) (r3 : Int) (r4 : Int) (r5 : List Int) (r6 : ByteArray) (w : World) (h : tabularylaw12_file.f a0 a1 = some (r1, r2, r3, r4, r5, r6)) :
  Calls Tryd.prog 14 #[.string a0, .int .i64 a1] w fun e w' => ∃ v4_ : Value, e = .returned (.agg #[.string r1, .int .u8 r2, .int .i64 r3, .int .i64 r4, v4_, .string r6]) ∧ Kd.R (Kd.int .u8) 5 w' w.heap.size (fun _ => True) v4_ r5 ∧ Below w.heap.size w w' := by
 have hu25 := Tryd.underlying25
 have HB := Aside0.mk (Below.refl w.heap.size w)
 have H : (if 0 ≤ a1 then (if (a1 : Int).toNat ≤ 281474976710656 then (some (a0, 1, 0, 0, (List.replicate (a1 : Int).toNat 0), (⟨#[]⟩ : ByteArray))) else (none)) else (none)) = some (r1, r2, r3, r4, r5, r6) := h
 clear h
 by_cases c3 : 0 ≤ a1
 ·rw [if_pos c3] at H
  have c3b0 := eq_true c3
  have c3b1 : decide (0 ≤ a1) = true := decide_eq_true c3
  clear c3
  by_cases c4 : (a1 : Int).toNat ≤ 281474976710656
  ·rw [if_pos c4] at H
   have c4b0 := eq_true c4
   have c4b1 : decide ((a1 : Int).toNat ≤ 281474976710656) = true := decide_eq_true c4
   clear c4
   obtain ⟨y159, hy159⟩ : ∃ y_ : List Int, y_ = (List.replicate (a1 : Int).toNat 0) := ⟨_, rfl⟩
   replace H : (some (a0, 1, 0, 0, y159, (⟨#[]⟩ : ByteArray))) = some (r1, r2, r3, r4, r5, r6) := by first | (rw [hy159]; with_reducible exact H) | (have H2_ := (Option.bind_some _ _).symm.trans H; rw [hy159]; with_reducible exact H2_) | (have H2_ := (Option.bind_some _ _).symm.trans H; with_reducible exact H2_) | with_reducible exact H | (rw [hy159]; exact H) | exact H
   have Ny159 := Aside0.mk hy159
   clear hy159
   simp only [Option.some.injEq, Prod.mk.injEq] at H
   obtain ⟨rfl, rfl, rfl, rfl, rfl, rfl⟩ := H
   go_enter Tryd.func14, Tryd.ntmps14
   go_wp2_with (first | ((with_reducible refine gate_dst (N := 4) rfl ?_); refine box_event ?hg (N := 4) ?hd (cs := #[.string (⟨#[]⟩ : ByteArray), .int .u8 0, .int .i64 0, .int .i64 0, .slice none 0 0, .string (⟨#[]⟩ : ByteArray)]) (t := 25) ?hr ?_; (case hd => rfl); (case hg => rfl); (case hr => first | (go_simp; done) | (go_simp; rfl)); intro gb158 hg w5 hbox hb; have n0_ := Aside0.mk (below_step (hb_) hb); have n1_ := Aside0.mk (hbox); have n2_ := Aside0.mk ((by rw [hg]; exact (below_size (hb_)) : w.heap.size ≤ gb158)); have n3_ := Aside0.mk ((by rw [hg]; exact (below_size (hb_)) : w.heap.size ≤ gb158)); clear HB; have HB := n0_; have BK158 := n1_; have GW158 := n2_; have GE158 := n3_; clear n0_ n1_ n2_ n3_; clear hb hbox hg) | ((with_reducible refine gate_dst (N := 7) rfl ?_); refine Kd.R_make (Kd.int .u8) _ 5 rfl (N := 7) rfl 23 _ _ rfl a1 rfl rfl Tryd.underlying23 (.int .u8 0) 1 info5 rfl (by decide) (by omega) 0 (ok := fun _ => True) (okp := fun _ => True) rfl (fun _ hk => hk) trivial (of_decide_eq_true (as_)) (Nat.le_trans (Nat.mul_le_mul_right _ (of_decide_eq_true (as_) : a1.toNat ≤ 281474976710656)) (by omega)) (Below.refl _ _) (Nat.le_refl _) ?_; intro v160 w6 ho7 hb hg_ hnew_; clear hg_ hnew_; (first | rw [← Ny159.out] at ho7 | (simp only [Int.reduceToNat] at ho7; rw [← Ny159.out] at ho7)); have n0_ := Aside0.mk (Kd.R_lower ho7 (below_size (by repeat (first | (with_reducible first | exact HB.out | apply below_alloc | apply pw_below_drewN | apply below_drew1 | refine below_set ?_ GE158.out) | exact HB.out)))); have n1_ := Aside0.mk (blk_below (g := gb158) (o := .cells #[.string (⟨#[]⟩ : ByteArray), .int .u8 0, .int .i64 0, .int .i64 0, .slice none 0 0, .string (⟨#[]⟩ : ByteArray)] 25 (0, 0)) (by (with_reducible repeat (first | refine blk_drewN ?_ _ | refine blk_drew ?_ | refine blk_alloc ?_ _)); exact BK158.out) hb); have n2_ := Aside0.mk (below_step (by repeat (first | (with_reducible first | exact HB.out | apply below_alloc | apply pw_below_drewN | apply below_drew1 | refine below_set ?_ GE158.out) | exact HB.out)) hb); clear BK158; clear HB; have HO161 := n0_; have BK158 := n1_; have HB := n2_; clear n0_ n1_ n2_; clear hb ho7; obtain ⟨Ao8, co8, eo8⟩ := Kd.R_slice HO161.out; subst eo8; have hcz9_0 : w6.cell? ⟨gb158, 0, none⟩ = some (.string (⟨#[]⟩ : ByteArray)) := (blk_cell BK158.out 0).trans rfl; have hcz9_1 : w6.cell? ⟨gb158, 1, none⟩ = some (.int .u8 0) := (blk_cell BK158.out 1).trans rfl; have hcz9_2 : w6.cell? ⟨gb158, 2, none⟩ = some (.int .i64 0) := (blk_cell BK158.out 2).trans rfl; have hcz9_3 : w6.cell? ⟨gb158, 3, none⟩ = some (.int .i64 0) := (blk_cell BK158.out 3).trans rfl; have hcz9_4 : w6.cell? ⟨gb158, 4, none⟩ = some (.slice none 0 0) := (blk_cell BK158.out 4).trans rfl; have hcz9_5 : w6.cell? ⟨gb158, 5, none⟩ = some (.string (⟨#[]⟩ : ByteArray)) := (blk_cell BK158.out 5).trans rfl; have hfz9_0 := blk_frozen BK158.out 0; have hfz9_1 := blk_frozen BK158.out 1; have hfz9_2 := blk_frozen BK158.out 2; have hfz9_3 := blk_frozen BK158.out 3; have hfz9_4 := blk_frozen BK158.out 4; have hfz9_5 := blk_frozen BK158.out 5))
   refine bodyPost_ret (results_cell_row rfl _ _ gb158 25 #[.string a0, .int .u8 1, .int .i64 0, .int .i64 0, .slice Ao8 y159.length co8, .string (⟨#[]⟩ : ByteArray)] (0, 0) _ rfl (by (with_reducible repeat (first | refine blk_drewN ?_ _ | refine blk_drew ?_ | refine blk_alloc ?_ _)); refine blk_put (cs := #[.string a0, .int .u8 1, .int .i64 0, .int .i64 0, .slice Ao8 y159.length co8, .string (⟨#[]⟩ : ByteArray)]) ?_ 5 _ rfl; (with_reducible repeat (first | refine blk_drewN ?_ _ | refine blk_drew ?_ | refine blk_alloc ?_ _)); refine blk_put (cs := #[.string a0, .int .u8 1, .int .i64 0, .int .i64 0, .slice none 0 0, .string (⟨#[]⟩ : ByteArray)]) ?_ 4 _ rfl; (with_reducible repeat (first | refine blk_drewN ?_ _ | refine blk_drew ?_ | refine blk_alloc ?_ _)); refine blk_put (cs := #[.string a0, .int .u8 1, .int .i64 0, .int .i64 0, .slice none 0 0, .string (⟨#[]⟩ : ByteArray)]) ?_ 3 _ rfl; (with_reducible repeat (first | refine blk_drewN ?_ _ | refine blk_drew ?_ | refine blk_alloc ?_ _)); refine blk_put (cs := #[.string a0, .int .u8 1, .int .i64 0, .int .i64 0, .slice none 0 0, .string (⟨#[]⟩ : ByteArray)]) ?_ 2 _ rfl; (with_reducible repeat (first | refine blk_drewN ?_ _ | refine blk_drew ?_ | refine blk_alloc ?_ _)); refine blk_put (cs := #[.string a0, .int .u8 0, .int .i64 0, .int .i64 0, .slice none 0 0, .string (⟨#[]⟩ : ByteArray)]) ?_ 1 _ rfl; (with_reducible repeat (first | refine blk_drewN ?_ _ | refine blk_drew ?_ | refine blk_alloc ?_ _)); refine blk_put (cs := #[.string (⟨#[]⟩ : ByteArray), .int .u8 0, .int .i64 0, .int .i64 0, .slice none 0 0, .string (⟨#[]⟩ : ByteArray)]) ?_ 0 _ rfl; (with_reducible repeat (first | refine blk_drewN ?_ _ | refine blk_drew ?_ | refine blk_alloc ?_ _)); exact BK158.out) Tryd.underlying25 rfl (by kernel_rfl)) rfl ?_
   exact ⟨_, er_, by (with_reducible repeat (first | apply Kd.R_alloc | apply Kd.R_drewN | apply Kd.R_drew)); exact Kd.R_mono (Kd.R_far (p := ⟨gb158, 5, none⟩) (Kd.R_far (p := ⟨gb158, 4, none⟩) (Kd.R_far (p := ⟨gb158, 3, none⟩) (Kd.R_far (p := ⟨gb158, 2, none⟩) (Kd.R_far (p := ⟨gb158, 1, none⟩) (Kd.R_far (p := ⟨gb158, 0, none⟩) (Kd.R_types HO161.out BK158.out (by decide)) (fun _ hk => hk.2) (.string a0)) (fun _ hk => hk.2) (.int .u8 1)) (fun _ hk => hk.2) (.int .i64 0)) (fun _ hk => hk.2) (.int .i64 0)) (fun _ hk => hk.2) (.slice Ao8 y159.length co8)) (fun _ hk => hk.2) (.string (⟨#[]⟩ : ByteArray))) (fun _ hk => trivial), by repeat (first | (with_reducible first | exact HB.out | apply below_alloc | apply pw_below_drewN | apply below_drew1 | refine below_set ?_ GE158.out) | exact HB.out)⟩
  ·rw [if_neg c4] at H
   exact absurd H (by simp)
 ·rw [if_neg c3] at H
  exact absurd H (by simp)
end Go.Proofs.YtopehfjohifpnaaDoor.Doc
end
section
set_option linter.unusedSimpArgs false
set_option linter.unusedVariables false
namespace Go.Proofs.YtopehfjohifpnaaDoor.Mine
open Go.RowKit Go.Shelf Go.Proofs.YtopehfjohifpnaaDoorW.PrintWords Go.Proofs.YtopehfjohifpnaaDoorW.PrintLast Go.Proofs.YtopehfjohifpnaaDoorW.PrintMore Go.Proofs.YtopehfjohifpnaaDoor.Turn Go.Proofs.YtopehfjohifpnaaDoor.Doc
theorem check_one {x : S25} (hm : mayX x = 0) (hu : (upF x.f0).size = 0) (h3 : x.f1 ≠ 3) : checkT [x] = (0, 0) := by
  have e : checkG [x] [x].length 0 = if mayX x ≠ 0 then (((0 : Nat) : Int), mayX x) else
    if 0 < 0 ∧ cmpF (itm [x] (0 - 1)).f0 x.f0 ≠ -1 then (((0 : Nat) : Int), 111) else
    if (upF x.f0).size ≠ 0 ∧ hasF ([x].take 0) (upF x.f0) 2 = false then (((0 : Nat) : Int), 112) else
    if x.f1 = 3 ∧ hasF ([x].take 0) x.f5 1 = false then (((0 : Nat) : Int), 113) else (0, 0) := rfl
  unfold checkT
  rw [if_neg (by simp), e, if_neg (fun e => e hm), if_neg (fun e => absurd e.1 (Nat.lt_irrefl 0)), if_neg (fun e => e.1 hu), if_neg (fun e => h3 e.1)]
set_option maxRecDepth 100000 in
theorem write_one {x : S25} (hm : mayX x = 0) (hu : (upF x.f0).size = 0) (h3 : x.f1 ≠ 3) : writeF [x] = if 131072 < (piecesF x).length + 1024 then ([], 0, 2) else (piecesF x ++ zs 1024, 0, 0) := by
  unfold writeF
  rw [check_one hm hu h3, if_neg (by simp)]
  show (if 131072 < ([] ++ piecesF x).length + 1024 then (([], ((0 : Nat) : Int), 2) : List Int × Int × Int) else (([] ++ piecesF x) ++ zs 1024, 0, 0)) = _
  rw [List.nil_append]
  rfl
theorem plain_len {x : S25} (hm : mayX x = 0) (hp : pairsL x.f0 x.f5 = []) : (piecesF x).length = 512 + (x.f4.length + 511) / 512 * 512 := by
  rw [pieces_eq hm, hp, moreL_nil, List.nil_append, List.length_append, layF_len (own_good hm), fillL_len]
abbrev sA : ByteArray := ⟨#[97]⟩
abbrev sAB : ByteArray := ⟨#[97, 47, 98]⟩
def fileI (p : ByteArray) (n : Nat) : S25 := ⟨p, 1, 0, 0, zs n, NoB⟩
def foldI (p : ByteArray) : S25 := ⟨p, 2, 0, 0, [], NoB⟩
theorem may_file {p : ByteArray} {n : Nat} (hp : (checkF p).2 = 0) (hn : n ≤ 65536) : mayX (fileI p n) = 0 := by
  unfold mayX mayF mayT fileI
  simp only
  rw [if_neg (fun e => e hp), if_neg (by simp), if_neg (fun e => e.2 rfl), if_neg (by decide), if_neg (by decide), if_neg (by decide), if_neg (by rw [zs_length]; omega)]
theorem may_fold {p : ByteArray} (hp : (checkF p).2 = 0) : mayX (foldI p) = 0 := by
  unfold mayX mayF mayT foldI
  simp only
  rw [if_neg (fun e => e hp), if_neg (by simp), if_neg (by decide), if_neg (by decide), if_neg (by decide), if_neg (by decide), if_neg (by decide)]
theorem no_pairs {p : ByteArray} (hp : (checkF p).2 = 0) (hs : p.size ≤ 100) : pairsL p NoB = [] := by
  have h : (splitF p).2.2 = 0 := by unfold splitF; rw [if_neg (fun e => e hp), if_pos hs]
  unfold pairsL
  rw [if_neg (by decide), if_neg (fun e => e h)]
  rfl
theorem chk_a : (checkF sA).2 = 0 := by decide +kernel
theorem up_a : (upF sA).size = 0 := by decide +kernel
theorem vol_file {p : ByteArray} {n : Nat} (hp : (checkF p).2 = 0) (hs : p.size ≤ 100) (hu : (upF p).size = 0) (hn : n ≤ 65536) (hb : 512 + (n + 511) / 512 * 512 + 1024 ≤ 131072) : (writeF [fileI p n]).1.length = 512 + (n + 511) / 512 * 512 + 1024 ∧ (writeF [fileI p n]).2.2 = 0 := by
  have hl := plain_len (may_file hp hn) (no_pairs hp hs)
  have hz : (fileI p n).f4.length = n := zs_length n
  rw [hz] at hl
  rw [write_one (may_file hp hn) hu (by show (1 : Int) ≠ 3; decide), if_neg (by omega)]
  exact ⟨by rw [List.length_append, hl, zs_length], rfl⟩
theorem vol_a3 : (writeF [fileI sA 3]).1.length = 2048 ∧ (writeF [fileI sA 3]).2.2 = 0 := vol_file chk_a (by decide) up_a (by omega) (by omega)
theorem vol_a513 : (writeF [fileI sA 513]).1.length = 2560 ∧ (writeF [fileI sA 513]).2.2 = 0 := vol_file chk_a (by decide) up_a (by omega) (by omega)
theorem vol_ab : writeF [foldI sAB] = ([], 0, 112) := by
  have h : checkT [foldI sAB] = (0, 112) := by decide +kernel
  unfold writeF
  rw [h, if_pos (by decide)]
theorem vol_no : (writeF []).1.length = 1024 ∧ (writeF []).2.2 = 0 := by
  have h : checkT [] = (0, 0) := rfl
  unfold writeF
  rw [h, if_neg (by decide)]
  show ([] ++ zs 1024).length = 1024 ∧ (0 : Int) = 0
  rw [List.nil_append, zs_length]
  exact ⟨rfl, rfl⟩
theorem file_any (p : ByteArray) (n : Nat) (hn : n ≤ 65536) (w : World) : Calls Tryd.prog 14 #[.string p, .int .i64 n] w fun e w' => ∃ A c, e = .returned (.agg #[.string p, .int .u8 1, .int .i64 0, .int .i64 0, .slice A n c, .string NoB]) ∧ n ≤ c ∧ Kd.C (Kd.int .u8) w' A n (zs n) ∧ Below w.heap.size w w' := by
  refine (tabularylaw12_file.calls p n p 1 0 0 (zs n) NoB w ?_).mono ?_
  · unfold tabularylaw12_file.f
    rw [if_pos (by omega), if_pos (by omega), Int.toNat_natCast]
    rfl
  · rintro e w' ⟨v, rfl, hv, hb⟩
    obtain ⟨A, c, rfl, hc, hC⟩ := Kd.R_reads hv
    rw [zs_length] at hc hC ⊢
    exact ⟨A, c, rfl, hc, hC, hb⟩
theorem folder_any (p : ByteArray) (w : World) : Calls Tryd.prog 13 #[.string p] w fun e w' => ∃ A c, e = .returned (.agg #[.string p, .int .u8 2, .int .i64 0, .int .i64 0, .slice A 0 c, .string NoB]) ∧ Kd.C (Kd.int .u8) w' A 0 [] ∧ Below w.heap.size w w' := by
  refine (tabularylaw12_folder.calls p p 2 0 0 [] NoB w rfl).mono ?_
  rintro e w' ⟨v, rfl, hv, hb⟩
  obtain ⟨A, c, rfl, hc, hC⟩ := Kd.R_reads hv
  exact ⟨A, c, rfl, hC, hb⟩
theorem C_oneI {W : World} {x : S25} {A : Option Addr} {c n : Nat} (hn : n = x.f4.length) (t : TypeId) (hl : n ≤ c) (hC : Kd.C (Kd.int .u8) W A n x.f4) :
    Kd.C k25 (W.alloc (.cells #[.string x.f0, .int .u8 x.f1, .int .i64 x.f2, .int .i64 x.f3, .slice A n c, .string x.f5] t)) (some ⟨W.heap.size, 0, none⟩) [x].length [x] := by
  subst hn
  have hb := Blk.new W #[.string x.f0, .int .u8 x.f1, .int .i64 x.f2, .int .i64 x.f3, .slice A x.f4.length c, .string x.f5] t
  have k1 := Kd.C_below hC (below_alloc (Below.refl _ W) (.cells #[.string x.f0, .int .u8 x.f1, .int .i64 x.f2, .int .i64 x.f3, .slice A x.f4.length c, .string x.f5] t))
  refine ⟨rfl, by simp, fun _ => ⟨_, rfl, fun j p hj => ?_⟩⟩
  match j, hj with
  | 0, hj =>
    cases hj
    refine ⟨_, rfl, k25_mk _ x hl k1, fun i u hu => ?_⟩
    match i, hu with
    | 0, hu => cases hu; exact (Blk.cell hb 0).trans rfl
    | 1, hu => cases hu; exact (Blk.cell hb 1).trans rfl
    | 2, hu => cases hu; exact (Blk.cell hb 2).trans rfl
    | 3, hu => cases hu; exact (Blk.cell hb 3).trans rfl
    | 4, hu => cases hu; exact (Blk.cell hb 4).trans rfl
    | 5, hu => cases hu; exact (Blk.cell hb 5).trans rfl
theorem nil_CI (W : World) : Kd.C k25 W none 0 [] := ⟨rfl, by simp, fun h => absurd h (by simp)⟩
set_option maxRecDepth 100000 in
set_option maxHeartbeats 8000000 in
theorem awake_any (i0 : Int) (w : World) (hV : Vars w i0) :
    Calls Tryd.prog 8 #[] w fun e w' => e = .returned (.bool true) ∧ Below w.heap.size w w' := by
  have HV := Aside0.mk hV
  have S1 : Aside0 (∀ (X : World) A c, Below w.heap.size w X → c ≥ 3 → Kd.C (Kd.int .u8) X A 3 (zs 3) → Calls Tryd.prog 12 #[.slice (some ⟨X.heap.size, 0, none⟩) 1 1] (X.alloc (.cells #[.string sA, .int .u8 1, .int .i64 0, .int .i64 0, .slice A 3 c, .string NoB] 25)) fun e w' => e = .returned (.tuple #[.int .i64 2048, .int .i64 0]) ∧ Below (X.alloc (.cells #[.string sA, .int .u8 1, .int .i64 0, .int .i64 0, .slice A 3 c, .string NoB] 25)).heap.size (X.alloc (.cells #[.string sA, .int .u8 1, .int .i64 0, .int .i64 0, .slice A 3 c, .string NoB] 25)) w') := ⟨fun X A c hb hc hC => by
    have h := sizeW_any (some ⟨X.heap.size, 0, none⟩) 1 [fileI sA 3] i0 _ (C_oneI (x := fileI sA 3) rfl 25 hc hC) (hV.below (below_alloc hb _))
    rw [vol_a3.1, vol_a3.2] at h
    exact h⟩
  have S2 : Aside0 (∀ (X : World) A c, Below w.heap.size w X → c ≥ 513 → Kd.C (Kd.int .u8) X A 513 (zs 513) → Calls Tryd.prog 12 #[.slice (some ⟨X.heap.size, 0, none⟩) 1 1] (X.alloc (.cells #[.string sA, .int .u8 1, .int .i64 0, .int .i64 0, .slice A 513 c, .string NoB] 25)) fun e w' => e = .returned (.tuple #[.int .i64 2560, .int .i64 0]) ∧ Below (X.alloc (.cells #[.string sA, .int .u8 1, .int .i64 0, .int .i64 0, .slice A 513 c, .string NoB] 25)).heap.size (X.alloc (.cells #[.string sA, .int .u8 1, .int .i64 0, .int .i64 0, .slice A 513 c, .string NoB] 25)) w') := ⟨fun X A c hb hc hC => by
    have h := sizeW_any (some ⟨X.heap.size, 0, none⟩) 1 [fileI sA 513] i0 _ (C_oneI (x := fileI sA 513) (by show 513 = (zs 513).length; rw [zs_length]) 25 hc hC) (hV.below (below_alloc hb _))
    rw [vol_a513.1, vol_a513.2] at h
    exact h⟩
  have S3 : Aside0 (∀ (X : World) A c, Below w.heap.size w X → Kd.C (Kd.int .u8) X A 0 [] → Calls Tryd.prog 9 #[.slice (some ⟨X.heap.size, 0, none⟩) 1 1] (X.alloc (.cells #[.string sAB, .int .u8 2, .int .i64 0, .int .i64 0, .slice A 0 c, .string NoB] 25)) fun e w' => (∃ A' c', e = .returned (.tuple #[.slice A' 0 c', .int .i64 0, .int .i64 112])) ∧ Below (X.alloc (.cells #[.string sAB, .int .u8 2, .int .i64 0, .int .i64 0, .slice A 0 c, .string NoB] 25)).heap.size (X.alloc (.cells #[.string sAB, .int .u8 2, .int .i64 0, .int .i64 0, .slice A 0 c, .string NoB] 25)) w') := ⟨fun X A c hb hC => by
    have h := write_any (some ⟨X.heap.size, 0, none⟩) 1 [foldI sAB] i0 _ (C_oneI (x := foldI sAB) rfl 25 (Nat.zero_le c) hC) (hV.below (below_alloc hb _))
    rw [vol_ab] at h
    refine h.mono ?_
    rintro e w' ⟨A', c', rfl, _, hb⟩
    exact ⟨⟨A', c', rfl⟩, hb⟩⟩
  have S4 : Aside0 (∀ (X : World), Below w.heap.size w X → Calls Tryd.prog 9 #[.slice none 0 0] X fun e w' => (∃ A' c' a', e = .returned (.tuple #[.slice A' 1024 c', .int .i64 a', .int .i64 0])) ∧ Below X.heap.size X w') := ⟨fun X hb => by
    have h := write_any none 0 [] i0 X (nil_CI X) (hV.below hb)
    refine h.mono ?_
    rintro e w' ⟨A', c', rfl, _, hb⟩
    rw [vol_no.1, vol_no.2]
    exact ⟨⟨A', c', _, rfl⟩, hb⟩⟩
  clear hV
  go_enter Tryd.func8, Tryd.ntmps8
  go_wp2_with fail
  refine (file_any sA 3 (by omega) w).mono ?_
  rintro e w1 ⟨A1, c1, rfl, hc1, hC1, hb1⟩
  have Q1 := Aside0.mk (S1.out w1 A1 c1 hb1 hc1 hC1)
  have HB1 := Aside0.mk (below_alloc hb1 (.cells #[.string sA, .int .u8 1, .int .i64 0, .int .i64 0, .slice A1 3 c1, .string NoB] 25))
  clear S1 hb1 hc1 hC1
  go_wp2_with fail
  refine Q1.out.mono ?_
  rintro e w2 ⟨rfl, hb2⟩
  have HB2 := Aside0.mk (below_step HB1.out hb2)
  clear Q1 hb2 HB1
  go_wp2_with fail
  refine (file_any sA 513 (by omega) w2).mono ?_
  rintro e w3 ⟨A3, c3, rfl, hc3, hC3, hb3⟩
  have Q3 := Aside0.mk (S2.out w3 A3 c3 (below_step HB2.out hb3) hc3 hC3)
  have HB3 := Aside0.mk (below_alloc (below_step HB2.out hb3) (.cells #[.string sA, .int .u8 1, .int .i64 0, .int .i64 0, .slice A3 513 c3, .string NoB] 25))
  clear S2 hb3 hc3 hC3
  go_wp2_with fail
  refine Q3.out.mono ?_
  rintro e w4 ⟨rfl, hb4⟩
  have HB4 := Aside0.mk (below_step HB3.out hb4)
  clear Q3 hb4 HB3
  go_wp2_with fail
  refine (folder_any sAB w4).mono ?_
  rintro e w5 ⟨A5, c5, rfl, hC5, hb5⟩
  have Q5 := Aside0.mk (S3.out w5 A5 c5 (below_step HB4.out hb5) hC5)
  have HB5 := Aside0.mk (below_alloc (below_step HB4.out hb5) (.cells #[.string sAB, .int .u8 2, .int .i64 0, .int .i64 0, .slice A5 0 c5, .string NoB] 25))
  clear S3 hb5 hC5
  go_wp2_with fail
  refine Q5.out.mono ?_
  rintro e w6 ⟨⟨A6, c6, rfl⟩, hb6⟩
  have HB6 := Aside0.mk (below_step HB5.out hb6)
  clear Q5 hb6 HB5
  go_wp2_with fail
  refine (S4.out w6 HB6.out).mono ?_
  rintro e w7 ⟨⟨A7, c7, a7, rfl⟩, hb7⟩
  have HB7 := Aside0.mk (below_step HB6.out hb7)
  clear hb7 HB6
  go_wp2_with fail
  go_ret
  exact ⟨rfl, HB7.out⟩
end Go.Proofs.YtopehfjohifpnaaDoor.Mine
end
section
set_option linter.unusedSimpArgs false
set_option linter.unusedVariables false
namespace Go.Proofs.YtopehfjohifpnaaDoor.Mine
open Go.RowKit Go.Shelf Go.Proofs.YtopehfjohifpnaaDoorW.PrintWords Go.Proofs.YtopehfjohifpnaaDoorW.PrintLast Go.Proofs.YtopehfjohifpnaaDoorW.PrintMore Go.Proofs.YtopehfjohifpnaaDoor.Turn Go.Proofs.YtopehfjohifpnaaDoor.Doc
theorem check_two {x y : S25} (hm : mayX x = 0) (hu : (upF x.f0).size = 0) (h3 : x.f1 ≠ 3) (hm' : mayX y = 0) (hu' : (upF y.f0).size = 0) (h3' : y.f1 ≠ 3) (hc : cmpF x.f0 y.f0 = -1) : checkT [x, y] = (0, 0) := by
  have e : checkG [x, y] [x, y].length 0 = if mayX x ≠ 0 then (((0 : Nat) : Int), mayX x) else
    if 0 < 0 ∧ cmpF (itm [x, y] (0 - 1)).f0 x.f0 ≠ -1 then (((0 : Nat) : Int), 111) else
    if (upF x.f0).size ≠ 0 ∧ hasF ([x, y].take 0) (upF x.f0) 2 = false then (((0 : Nat) : Int), 112) else
    if x.f1 = 3 ∧ hasF ([x, y].take 0) x.f5 1 = false then (((0 : Nat) : Int), 113) else
    if mayX y ≠ 0 then (((1 : Nat) : Int), mayX y) else
    if 0 < 1 ∧ cmpF x.f0 y.f0 ≠ -1 then (((1 : Nat) : Int), 111) else
    if (upF y.f0).size ≠ 0 ∧ hasF ([x, y].take 1) (upF y.f0) 2 = false then (((1 : Nat) : Int), 112) else
    if y.f1 = 3 ∧ hasF ([x, y].take 1) y.f5 1 = false then (((1 : Nat) : Int), 113) else (0, 0) := rfl
  unfold checkT
  rw [if_neg (by simp), e, if_neg (fun e => e hm), if_neg (fun e => absurd e.1 (Nat.lt_irrefl 0)), if_neg (fun e => e.1 hu), if_neg (fun e => h3 e.1), if_neg (fun e => e hm'), if_neg (fun e => e.2 hc), if_neg (fun e => e.1 hu'), if_neg (fun e => h3' e.1)]
set_option maxRecDepth 100000 in
theorem write_two {x y : S25} (h : checkT [x, y] = (0, 0)) : writeF [x, y] = if 131072 < (piecesF x).length + 1024 then ([], 0, 2) else if 131072 < (piecesF x ++ piecesF y).length + 1024 then ([], 1, 2) else (piecesF x ++ piecesF y ++ zs 1024, 0, 0) := by
  unfold writeF
  rw [h, if_neg (by simp)]
  show (if 131072 < ([] ++ piecesF x).length + 1024 then (([], ((0 : Nat) : Int), 2) : List Int × Int × Int) else if 131072 < ([] ++ piecesF x ++ piecesF y).length + 1024 then (([], ((1 : Nat) : Int), 2) : List Int × Int × Int) else ([] ++ piecesF x ++ piecesF y ++ zs 1024, 0, 0)) = _
  rw [List.nil_append]
  rfl
abbrev sB : ByteArray := ⟨#[98]⟩
abbrev sC : ByteArray := ⟨#[99]⟩
abbrev sL : ByteArray := ⟨#[108]⟩
theorem len_file {p : ByteArray} {n : Nat} (hp : (checkF p).2 = 0) (hs : p.size ≤ 100) (hn : n ≤ 65536) : (piecesF (fileI p n)).length = 512 + (n + 511) / 512 * 512 := by
  have hl := plain_len (may_file hp hn) (no_pairs hp hs)
  have hz : (fileI p n).f4.length = n := zs_length n
  rwa [hz] at hl
theorem len_fold {p : ByteArray} (hp : (checkF p).2 = 0) (hs : p.size ≤ 100) : (piecesF (foldI p)).length = 512 := by
  have h := plain_len (may_fold hp) (no_pairs hp hs)
  have hz : (foldI p).f4.length = 0 := rfl
  rw [hz] at h
  omega
theorem chk_b : (checkF sB).2 = 0 := by decide +kernel
theorem up_b : (upF sB).size = 0 := by decide +kernel
theorem chk_ab : (checkF sAB).2 = 0 := by decide +kernel
theorem two_files (n m : Nat) (hn : n ≤ 65536) (hm : m ≤ 65536) : checkT [fileI sA n, fileI sB m] = (0, 0) :=
  check_two (may_file chk_a hn) up_a (by show (1 : Int) ≠ 3; decide) (may_file chk_b hm) up_b (by show (1 : Int) ≠ 3; decide) (by show cmpF sA sB = -1; decide +kernel)
theorem vol_two {n m : Nat} (hn : n ≤ 65536) (hm : m ≤ 65536) (h1 : 512 + (n + 511) / 512 * 512 + 1024 ≤ 131072) : (131072 < 512 + (n + 511) / 512 * 512 + (512 + (m + 511) / 512 * 512) + 1024 → writeF [fileI sA n, fileI sB m] = ([], 1, 2)) ∧
    (512 + (n + 511) / 512 * 512 + (512 + (m + 511) / 512 * 512) + 1024 ≤ 131072 → (writeF [fileI sA n, fileI sB m]).1.length = 512 + (n + 511) / 512 * 512 + (512 + (m + 511) / 512 * 512) + 1024 ∧ (writeF [fileI sA n, fileI sB m]).2.2 = 0) := by
  have l1 := len_file (p := sA) chk_a (by decide) hn
  have l2 := len_file (p := sB) chk_b (by decide) hm
  rw [write_two (two_files n m hn hm), if_neg (by omega)]
  refine ⟨fun h => by rw [if_pos (by rw [List.length_append]; omega)], fun h => ?_⟩
  rw [if_neg (by rw [List.length_append]; omega)]
  exact ⟨by rw [List.length_append, List.length_append, zs_length]; omega, rfl⟩
theorem kn_over : writeF [fileI sA 65536, fileI sB 65536] = ([], 1, 2) := (vol_two (by omega) (by omega) (by omega)).1 (by omega)
theorem kn_over2 : writeF [fileI sA 65536, fileI sB 63489] = ([], 1, 2) := (vol_two (by omega) (by omega) (by omega)).1 (by omega)
theorem kn_full : (writeF [fileI sA 65536, fileI sB 63488]).1.length = 131072 ∧ (writeF [fileI sA 65536, fileI sB 63488]).2.2 = 0 := (vol_two (by omega) (by omega) (by omega)).2 (by omega)
theorem kn_512 : (writeF [fileI sA 512]).1.length = 2048 ∧ (writeF [fileI sA 512]).2.2 = 0 := vol_file chk_a (by decide) up_a (by omega) (by omega)
theorem kn_one : (writeF [fileI sA 65536]).1.length = 67072 ∧ (writeF [fileI sA 65536]).2.2 = 0 := vol_file chk_a (by decide) up_a (by omega) (by omega)
theorem kn_fold : (writeF [foldI sA]).1.length = 1536 ∧ (writeF [foldI sA]).2.2 = 0 := by
  have hl := len_fold (p := sA) chk_a (by decide)
  rw [write_one (may_fold chk_a) up_a (by show (2 : Int) ≠ 3; decide), if_neg (by omega)]
  exact ⟨by rw [List.length_append, hl, zs_length], rfl⟩
theorem kn_no : writeF [] = (zs 1024, 0, 0) := by
  have h : checkT [] = (0, 0) := rfl
  unfold writeF
  rw [h, if_neg (by decide)]
  show (([] ++ zs 1024, 0, 0) : List Int × Int × Int) = _
  rw [List.nil_append]
def nS (k : Nat) : ByteArray := ⟨Array.replicate k 110⟩
theorem nS_size (k : Nat) : (nS k).size = k := Array.size_replicate
theorem nS_next (k : Nat) : nS k ++ (⟨#[110]⟩ : ByteArray) = nS (k + 1) := by
  apply ByteArray.ext
  show (nS k ++ (⟨#[110]⟩ : ByteArray)).data = Array.replicate (k + 1) 110
  rw [ByteArray.data_append]
  exact Array.replicate_succ.symm
theorem kn_long : (checkF (nS 101)).2 = 0 := by decide +kernel
theorem kn_split : (splitF (nS 101)).2.2 = 2 := by decide +kernel
theorem kn_up : (upF (nS 101)).size = 0 := by decide +kernel
section
variable {p : ByteArray} (hp : (checkF p).2 = 0) (hz : p.size ≤ 400) (hs : (splitF p).2.2 = 2)
include hs in
theorem long_pairs : pairsL p NoB = [⟨KPath, p⟩] := by
  unfold pairsL
  rw [if_neg (by decide), if_pos (by rw [hs]; decide)]
  rfl
include hz in
theorem long_rec : 1 ≤ (putF [⟨KPath, p⟩]).1.length ∧ (putF [⟨KPath, p⟩]).1.length ≤ 512 := by
  have hk : KPath.size = 4 := by decide
  rw [putF_one _ (fit_key (.inr rfl) (by show p.size ≤ 1000; omega))]
  have hd := dOf_is (n := 3 + KPath.size + p.size) (by omega)
  show 1 ≤ (recL KPath p (dOf (3 + KPath.size + p.size))).length ∧ (recL KPath p (dOf (3 + KPath.size + p.size))).length ≤ 512
  rw [recL_length hd]
  have := hd.2.1
  omega
set_option maxRecDepth 100000 in
include hp hz hs in
theorem long_vol (hu : (upF p).size = 0) : (writeF [fileI p 0]).1.length = 2560 ∧ (writeF [fileI p 0]).2.2 = 0 := by
  have hm := may_file (n := 0) hp (by omega)
  have hr := long_rec hz
  have hg := more_good (putF_len [⟨KPath, p⟩])
  have hl : (piecesF (fileI p 0)).length = 1536 := by
    have e : pairsL (fileI p 0).f0 (fileI p 0).f5 = [⟨KPath, p⟩] := long_pairs hs
    have hz : (fileI p 0).f4.length = 0 := zs_length 0
    rw [pieces_eq hm, e, moreL_eq (by simp), List.length_append, List.length_append, List.length_append, layF_len hg, layF_len (own_good hm), fillL_len, fillL_len, hz]
    omega
  rw [write_one hm hu (by show (1 : Int) ≠ 3; decide), if_neg (by omega)]
  exact ⟨by rw [List.length_append, hl, zs_length], rfl⟩
include hp hs in
theorem long_pairsF : pairsF p 1 0 0 0 NoB = ([⟨KPath, p⟩], 0) := by
  have hm := may_file (n := 0) hp (by omega)
  have h0 : mayF p 1 0 0 0 NoB = 0 := hm
  unfold pairsF
  rw [if_neg (fun e => e h0), long_pairs hs]
end
theorem kn_longvol : (writeF [fileI (nS 101) 0]).1.length = 2560 ∧ (writeF [fileI (nS 101) 0]).2.2 = 0 := long_vol kn_long (by rw [nS_size]; omega) kn_split kn_up
theorem kn_pairsF : pairsF (nS 101) 1 0 0 0 NoB = ([⟨KPath, nS 101⟩], 0) := long_pairsF kn_long kn_split
theorem kn_soft : pairsF sL 4 0 0 0 (nS 101) = ([⟨KLink, nS 101⟩], 0) := by
  have h0 : mayF sL 4 0 0 0 (nS 101) = 0 := by decide +kernel
  have hs : (splitF sL).2.2 = 0 := by decide +kernel
  unfold pairsF
  rw [if_neg (fun e => e h0)]
  unfold pairsL
  rw [if_pos (by rw [nS_size]; omega), if_neg (fun e => e hs)]
  rfl
theorem kn_cut : pairsF (nS 90 ++ (⟨#[47]⟩ : ByteArray) ++ nS 90) 1 0 0 0 NoB = ([], 0) := by
  have h0 : mayF (nS 90 ++ (⟨#[47]⟩ : ByteArray) ++ nS 90) 1 0 0 0 NoB = 0 := by decide +kernel
  have hs : (splitF (nS 90 ++ (⟨#[47]⟩ : ByteArray) ++ nS 90)).2.2 = 0 := by decide +kernel
  unfold pairsF
  rw [if_neg (fun e => e h0)]
  unfold pairsL
  rw [if_neg (by decide), if_neg (fun e => e hs)]
  rfl
theorem nS_cut : (nS 101).extract 0 90 = nS 90 := by decide +kernel
theorem kn_add1 : addR [] [] false (foldI sAB) = 112 := by
  have h : checkT (([] : List S25).map bare ++ [foldI sAB]) = (0, 112) := by decide +kernel
  unfold addR
  rw [if_neg (by decide), h, if_pos (by decide)]
theorem kn_add2 : addR [] [] false (foldI sA) = 0 := by
  have h : checkT (([] : List S25).map bare ++ [foldI sA]) = (0, 0) := check_one (may_fold chk_a) up_a (by show (2 : Int) ≠ 3; decide)
  have hl := len_fold (p := sA) chk_a (by decide)
  unfold addR
  rw [if_neg (by decide), h, if_neg (by decide), List.nil_append, if_neg (by omega)]
theorem kn_add3 : addR [foldI sA] (piecesF (foldI sA)) false (foldI sAB) = 0 := by
  have h : checkT (([foldI sA] : List S25).map bare ++ [foldI sAB]) = (0, 0) := by decide +kernel
  have hl := len_fold (p := sA) chk_a (by decide)
  have hl2 := len_fold (p := sAB) chk_ab (by decide)
  unfold addR
  rw [if_neg (by decide), h, if_neg (by decide), if_neg (by rw [List.length_append]; omega)]
theorem kn_len : (piecesF (foldI sA) ++ piecesF (foldI sAB)).length = 1024 := by
  rw [List.length_append, len_fold (p := sA) chk_a (by decide), len_fold (p := sAB) chk_ab (by decide)]
set_option maxRecDepth 100000 in
set_option maxHeartbeats 4000000 in
theorem blank_any (A : Option Addr) (n c : Nat) (hn : n ≤ 1000000) (W : World) (hC : Kd.C (Kd.int .u8) W A n (zs n)) : Calls Tryd.prog 15 #[.slice A n c] W fun e W' => e = .returned (.bool true) ∧ Below W.heap.size W W' := by
  have HC := Aside0.mk hC
  clear hC
  go_enter Tryd.func15, Tryd.ntmps15
  go_wp2_with fail
  go_loopw [3] (fun v X => ∃ i : Nat, i ≤ n ∧ v = .int .i64 i ∧ Aside0 (Below W.heap.size W X)) (fun v _ => n - (intOf v).toNat)
  case atStart => exact ⟨0, Nat.zero_le _, rfl, ⟨Below.refl _ _⟩⟩
  case round =>
    rename World => X
    obtain ⟨i, hi, rfl, HB⟩ := hrel
    by_cases hlt : i < n
    · obtain ⟨ad, cs, e, _, hK, hc0⟩ := Kd.C_get (Kd.C_below HC.out HB.out) (0 : Int) (i : Int) (by omega) (by omega)
      subst e
      have hz : (zs n).getD (i : Int).toNat 0 = 0 := zs_at n _
      rw [hz] at hK
      have hcs : cs = [.int .u8 0] := hK
      subst hcs
      have hc := hc0 0 _ rfl
      rw [Int.toNat_natCast] at hc
      have hc1 : X.cell? (ad.add i) = some (.int .u8 0) := by simpa [Kd.int, Kd.scalar] using hc
      have hbl := World.block_lt_of_cell? _ _ hc1
      clear hz hK hc0 hc
      go_wp2_with fail
      go_roundw
      case rel => exact ⟨i + 1, by omega, by go_num, HB⟩
      case measure => simp [intOf]; omega
    · obtain rfl : i = n := by omega
      go_wp2_with fail
      go_ret
      exact ⟨rfl, HB.out⟩
end Go.Proofs.YtopehfjohifpnaaDoor.Mine
end
