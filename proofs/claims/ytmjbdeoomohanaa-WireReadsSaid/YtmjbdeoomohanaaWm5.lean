import Derived.Test.YtmjbdeoomohanaaWm4
import Derived.Recover
import Derived.Test.YtmjbdeoomohanaaPWirePacksx5

/- wire: the plain law of a coder: what is laid is read, what is read was laid. -/
set_option linter.unusedSimpArgs false
set_option linter.unusedVariables false
namespace Go.Proofs.Ytmjbdeoomohanaa.Mine
open Go.RowKit Go.Maps Go.Proofs.YtmjbdeoomohanaaW.PrintWords Go.Proofs.YtmjbdeoomohanaaW.PrintLast Go.Proofs.YtmjbdeoomohanaaW.PrintMore Go.Proofs.Ytmjbdeoomohanaa.PWirePacks Go.Proofs.Ytmjbdeoomohanaa.Turn

def Byt (l : List Int) : Prop := ∀ x ∈ l, 0 ≤ x ∧ x < 256
theorem Byt.take {l : List Int} (h : Byt l) (n : Nat) : Byt (l.take n) := fun x hx => h x (List.mem_of_mem_take hx)
theorem Byt.drop {l : List Int} (h : Byt l) (n : Nat) : Byt (l.drop n) := fun x hx => h x (List.mem_of_mem_drop hx)
theorem Byt.left {a b : List Int} (h : Byt (a ++ b)) : Byt a := fun x hx => h x (List.mem_append_left _ hx)
theorem Byt.right {a b : List Int} (h : Byt (a ++ b)) : Byt b := fun x hx => h x (List.mem_append_right _ hx)

theorem be_snoc (n : Int) (sz : Nat) : be n (sz + 1) = be (n / 256) sz ++ [n % 256] := by
  unfold be
  rw [List.range_succ, List.map_append]
  congr 1
  · apply List.map_congr_left
    intro i hi
    have hi2 : i < sz := by simpa using hi
    unfold dig
    rw [show 8 * (sz + 1 - 1 - i) = 8 + 8 * (sz - 1 - i) by omega, Int.pow_add, Int.ediv_ediv_of_nonneg (by omega)]
    rfl
  · simp [dig]
theorem val_snoc (l : List Int) (x : Int) : val (l ++ [x]) = val l * 256 + x := by
  unfold val
  rw [List.foldl_append]
  rfl
theorem val_be : ∀ (sz : Nat) (n : Int), 0 ≤ n → n < 256 ^ sz → val (be n sz) = n
  | 0, n, h0, h1 => by
    have : n = 0 := by simp at h1; omega
    subst this
    rfl
  | sz + 1, n, h0, h1 => by
    rw [be_snoc, val_snoc, val_be sz (n / 256) (by omega) (by rw [Int.pow_succ] at h1; omega)]
    omega
theorem be_val : ∀ (sz : Nat) (r : List Int), r.length = sz → Byt r → be (val r) sz = r
  | 0, r, hl, _ => by
    rw [List.eq_nil_of_length_eq_zero hl]
    rfl
  | sz + 1, r, hl, hb => by
    obtain ⟨a, x, rfl⟩ : ∃ a x, r = a ++ [x] := ⟨r.take sz, r[sz]'(by omega), by rw [← List.take_succ_eq_append_getElem, List.take_of_length_le (by omega)]⟩
    have hx := hb x (by simp)
    rw [be_snoc, val_snoc, show (val a * 256 + x) / 256 = val a by omega, show (val a * 256 + x) % 256 = x by omega, be_val sz a (by simpa using hl) hb.left]

/-- What is laid is read, what is read was laid, what is cut short is refused. -/
structure Law {α : Type} (f : St → α → Except Int (α × St)) (good : α → Prop) (enc : α → List Int) : Prop where
  lay : ∀ l v, good v → f (.W l) v = .ok (v, .W (l ++ enc v))
  read : ∀ l v0 v S, Byt l → f (.R l) v0 = .ok (v, S) → ∃ rest, S = .R rest ∧ good v ∧ l = enc v ++ rest
  back : ∀ v v0 rest, good v → f (.R (enc v ++ rest)) v0 = .ok (v, .R rest)
  short : ∀ v v0 l rest, good v → enc v = l ++ rest → rest ≠ [] → f (.R l) v0 = .error 201
  bytes : ∀ v, good v → Byt (enc v)

theorem step_R {l : List Int} {bs : List Int} {n : Nat} (h : n ≤ l.length) : step (.R l) bs n = .ok (l.take n, .R (l.drop n)) := by
  rw [step, if_neg (by omega)]
theorem step_R_short {l : List Int} {bs : List Int} {n : Nat} (h : l.length < n) : step (.R l) bs n = .error 201 := by
  rw [step, if_pos h]
theorem step_back {a rest bs : List Int} : step (.R (a ++ rest)) bs a.length = .ok (a, .R rest) := by
  rw [step_R (by simp), List.take_left' rfl, List.drop_left' rfl]
theorem step_read {l bs r : List Int} {n : Nat} {S : St} (h : step (.R l) bs n = .ok (r, S)) : n ≤ l.length ∧ r = l.take n ∧ S = .R (l.drop n) := by
  by_cases hn : l.length < n
  · rw [step_R_short hn] at h
    cases h
  · rw [step_R (by omega)] at h
    simp only [Except.ok.injEq, Prod.mk.injEq] at h
    exact ⟨by omega, h.1.symm, h.2.symm⟩
theorem ne_nil_pos {α : Type} {l : List α} (h : l ≠ []) : 0 < l.length := List.length_pos_iff.2 h

theorem num_law (sz : Nat) : Law (fun S v => numS S v sz) (fun v => 0 ≤ v ∧ v < 256 ^ sz) (fun v => be v sz) where
  lay := fun l v h => by
    simp only [numS, step, val_be sz v h.1 h.2]
  read := fun l v0 v S hb h => by
    simp only [numS] at h
    split at h
    · cases h
    · rename_i r S1 h1
      obtain ⟨hn, rfl, rfl⟩ := step_read h1
      simp only [Except.ok.injEq, Prod.mk.injEq] at h
      obtain ⟨rfl, rfl⟩ := h
      have hl : (l.take sz).length = sz := by rw [List.length_take]; omega
      have hv := val_range (hb.take sz) sz (by omega)
      rw [List.take_of_length_le (by omega)] at hv
      refine ⟨_, rfl, hv, ?_⟩
      rw [be_val sz _ hl (hb.take sz), List.take_append_drop]
  back := fun v v0 rest h => by
    have := step_back (a := be v sz) (rest := rest) (bs := be v0 sz)
    rw [be_len] at this
    simp only [numS, this, val_be sz v h.1 h.2]
  short := fun v v0 l rest h he hr => by
    have h1 := congrArg List.length he
    rw [be_len, List.length_append] at h1
    have := ne_nil_pos hr
    simp only [numS, step_R_short (show l.length < sz by omega)]
  bytes := fun v _ => be_range v sz
theorem count_law (sz : Nat) (most bad : Int) (hm : most < 256 ^ sz) : Law (fun S v => countS S v sz most bad) (fun v => 0 ≤ v ∧ v ≤ most) (fun v => be v sz) where
  lay := fun l v h => by
    simp only [countS, step, val_be sz v h.1 (by omega)]
    rw [if_neg (by omega)]
  read := fun l v0 v S hb h => by
    simp only [countS] at h
    split at h
    · cases h
    · rename_i r S1 h1
      obtain ⟨hn, rfl, rfl⟩ := step_read h1
      split at h
      · cases h
      · simp only [Except.ok.injEq, Prod.mk.injEq] at h
        obtain ⟨rfl, rfl⟩ := h
        have hl : (l.take sz).length = sz := by rw [List.length_take]; omega
        have hv := val_range (hb.take sz) sz (by omega)
        rw [List.take_of_length_le (by omega)] at hv
        refine ⟨_, rfl, ⟨hv.1, by omega⟩, ?_⟩
        rw [be_val sz _ hl (hb.take sz), List.take_append_drop]
  back := fun v v0 rest h => by
    have := step_back (a := be v sz) (rest := rest) (bs := be v0 sz)
    rw [be_len] at this
    simp only [countS, this, val_be sz v h.1 (by omega)]
    rw [if_neg (by omega)]
  short := fun v v0 l rest h he hr => by
    have h1 := congrArg List.length he
    rw [be_len, List.length_append] at h1
    have := ne_nil_pos hr
    simp only [countS, step_R_short (show l.length < sz by omega)]
  bytes := fun v _ => be_range v sz

/-- A list cut short: in its first part, or behind it. -/
theorem cut_split {a b l rest : List Int} (h : a ++ b = l ++ rest) (hr : rest ≠ []) : (∃ r1, r1 ≠ [] ∧ a = l ++ r1) ∨ ∃ l', l = a ++ l' ∧ b = l' ++ rest := by
  rcases List.append_eq_append_iff.1 h with ⟨cs, h1, h2⟩ | ⟨bs, h1, h2⟩
  · exact .inr ⟨cs, h1, h2⟩
  · by_cases hb : bs = []
    · subst hb
      exact .inr ⟨[], by simpa using h1.symm, by simpa using h2.symm⟩
    · exact .inl ⟨bs, hb, h1⟩

def encT (bs : List Int) : List Int := be bs.length 2 ++ bs
def goodT (bs : List Int) : Prop := bs.length ≤ 2048 ∧ Byt bs
theorem text_law : Law textS goodT encT where
  lay := fun l v h => by
    have h1 := (count_law 2 2048 2 (by decide)).lay l v.length ⟨by omega, by have := h.1; omega⟩
    simp only [textS, h1, step, encT, List.append_assoc, Int.toNat_natCast]
  read := fun l v0 v S hb h => by
    simp only [textS] at h
    split at h
    · cases h
    · rename_i n S1 h1
      obtain ⟨r1, rfl, hn, rfl⟩ := (count_law 2 2048 2 (by decide)).read _ _ _ _ hb h1
      obtain ⟨h2, rfl, rfl⟩ := step_read h
      have hl : (r1.take n.toNat).length = n.toNat := by rw [List.length_take]; omega
      refine ⟨_, rfl, ⟨by omega, hb.right.take _⟩, ?_⟩
      rw [encT, hl, Int.toNat_of_nonneg hn.1, List.append_assoc, List.take_append_drop]
  back := fun v v0 rest h => by
    have h1 := (count_law 2 2048 2 (by decide)).back v.length v0.length (v ++ rest) ⟨by omega, by have := h.1; omega⟩
    simp only [textS, encT, List.append_assoc, h1, Int.toNat_natCast, step_back]
  short := fun v v0 l rest h he hr => by
    rcases cut_split (show be v.length 2 ++ v = l ++ rest from he) hr with ⟨r1, hr1, h1⟩ | ⟨l', rfl, h2⟩
    · have h1 := (count_law 2 2048 2 (by decide)).short v.length v0.length l r1 ⟨by omega, by have := h.1; omega⟩ h1 hr1
      simp only [textS, h1]
    · have h1 := (count_law 2 2048 2 (by decide)).back v.length v0.length l' ⟨by omega, by have := h.1; omega⟩
      have h3 := congrArg List.length h2
      rw [List.length_append] at h3
      have := ne_nil_pos hr
      simp only [textS, h1, Int.toNat_natCast, step_R_short (show l'.length < v.length by omega)]
  bytes := fun v h x hx => by
    rcases List.mem_append.1 hx with hx | hx
    · exact be_range _ _ x hx
    · exact h.2 x hx

def encE (x : S44) : List Int := be x.f0 8 ++ (be x.f1 8 ++ encT x.f2)
def goodE (x : S44) : Prop := (0 ≤ x.f0 ∧ x.f0 < 256 ^ 8) ∧ (0 ≤ x.f1 ∧ x.f1 < 256 ^ 8) ∧ goodT x.f2
theorem ent_law : Law entS goodE encE where
  lay := fun l v h => by
    have h1 := (num_law 8).lay l v.f0 h.1
    have h2 := (num_law 8).lay (l ++ be v.f0 8) v.f1 h.2.1
    have h3 := text_law.lay (l ++ be v.f0 8 ++ be v.f1 8) v.f2 h.2.2
    simp only [entS, h1, h2, h3]
    simp only [encE, List.append_assoc]
  read := fun l v0 v S hb h => by
    simp only [entS] at h
    split at h
    · cases h
    · rename_i a S1 h1
      obtain ⟨r1, rfl, g1, rfl⟩ := (num_law 8).read _ _ _ _ hb h1
      split at h
      · cases h
      · rename_i c S2 h2
        obtain ⟨r2, rfl, g2, rfl⟩ := (num_law 8).read _ _ _ _ hb.right h2
        split at h
        · cases h
        · rename_i q S3 h3
          obtain ⟨r3, rfl, g3, rfl⟩ := text_law.read _ _ _ _ hb.right.right h3
          simp only [Except.ok.injEq, Prod.mk.injEq] at h
          obtain ⟨rfl, rfl⟩ := h
          exact ⟨r3, rfl, ⟨g1, g2, g3⟩, by simp only [encE, List.append_assoc]⟩
  back := fun v v0 rest h => by
    have h1 := (num_law 8).back v.f0 v0.f0 (be v.f1 8 ++ (encT v.f2 ++ rest)) h.1
    have h2 := (num_law 8).back v.f1 v0.f1 (encT v.f2 ++ rest) h.2.1
    have h3 := text_law.back v.f2 v0.f2 rest h.2.2
    simp only [entS, encE, List.append_assoc, h1, h2, h3]
  short := fun v v0 l rest h he hr => by
    rcases cut_split (show be v.f0 8 ++ (be v.f1 8 ++ encT v.f2) = l ++ rest from he) hr with ⟨r1, hr1, h1⟩ | ⟨l1, rfl, h2⟩
    · have h1 := (num_law 8).short v.f0 v0.f0 l r1 h.1 h1 hr1
      simp only [entS, h1]
    · have k1 := (num_law 8).back v.f0 v0.f0 l1 h.1
      rcases cut_split h2 hr with ⟨r1, hr1, h1⟩ | ⟨l2, rfl, h3⟩
      · have h1 := (num_law 8).short v.f1 v0.f1 l1 r1 h.2.1 h1 hr1
        simp only [entS, k1, h1]
      · have k2 := (num_law 8).back v.f1 v0.f1 l2 h.2.1
        simp only [entS, k1, k2, text_law.short v.f2 v0.f2 l2 rest h.2.2 h3 hr]
  bytes := fun v h x hx => by
    rcases List.mem_append.1 hx with hx | hx
    · exact be_range _ _ x hx
    · rcases List.mem_append.1 hx with hx | hx
      · exact be_range _ _ x hx
      · exact text_law.bytes _ h.2.2 x hx

def block1 (S : St) (x : List Int) : Except Int (List Int × St) := step S x 128
def goodB (x : List Int) : Prop := x.length = 128 ∧ Byt x
theorem block_law : Law block1 goodB id where
  lay := fun l v h => rfl
  read := fun l v0 v S hb h => by
    obtain ⟨h2, rfl, rfl⟩ := step_read h
    exact ⟨_, rfl, ⟨by rw [List.length_take]; omega, hb.take _⟩, (List.take_append_drop _ _).symm⟩
  back := fun v v0 rest h => by
    have := step_back (a := v) (rest := rest) (bs := v0)
    rw [h.1] at this
    exact this
  short := fun v v0 l rest h he hr => by
    have h3 := congrArg List.length he
    rw [List.length_append] at h3
    have := ne_nil_pos hr
    have h4 := h.1
    simp only [id] at h3
    exact step_R_short (by omega)
  bytes := fun v h => h.2

/-- A row of such. -/
def rowG {α : Type} (f : St → α → Except Int (α × St)) (S : St) : List α → Except Int (List α × St)
  | [] => .ok ([], S)
  | x :: xs => match f S x with
    | .error e => .error e
    | .ok (r, S') => match rowG f S' xs with
      | .error e => .error e
      | .ok (rs, S'') => .ok (r :: rs, S'')
theorem rowL_G : ∀ (L : List S44) (S : St), rowL S L = rowG entS S L
  | [], S => rfl
  | x :: xs, S => by
    simp only [rowL, rowG]
    cases entS S x with
    | error e => rfl
    | ok y =>
      obtain ⟨r, S'⟩ := y
      simp only [rowL_G xs S']
      cases rowG entS S' xs with
      | error e => rfl
      | ok z => rfl
theorem rowS_G : ∀ (L : List (List Int)) (S : St), rowS S L = rowG block1 S L
  | [], S => rfl
  | x :: xs, S => by
    simp only [rowS, rowG]
    rw [show block1 S x = step S x 128 from rfl]
    cases step S x 128 with
    | error e => rfl
    | ok y =>
      obtain ⟨r, S'⟩ := y
      simp only [rowS_G xs S']
      cases rowG block1 S' xs with
      | error e => rfl
      | ok z => rfl
section
variable {α : Type} {f : St → α → Except Int (α × St)} {good : α → Prop} {enc : α → List Int} (H : Law f good enc)
include H
theorem row_lay : ∀ (L : List α) (l : List Int), (∀ x ∈ L, good x) → rowG f (.W l) L = .ok (L, .W (l ++ L.flatMap enc))
  | [], l, _ => by simp [rowG]
  | x :: xs, l, h => by
    simp only [rowG, H.lay l x (h x List.mem_cons_self), row_lay xs (l ++ enc x) (fun y hy => h y (List.mem_cons_of_mem _ hy)), List.flatMap_cons, List.append_assoc]
theorem row_read : ∀ (L0 L : List α) (l : List Int) (S : St), Byt l → rowG f (.R l) L0 = .ok (L, S) → ∃ rest, S = .R rest ∧ L.length = L0.length ∧ (∀ x ∈ L, good x) ∧ l = L.flatMap enc ++ rest
  | [], L, l, S, hb, h => by
    simp only [rowG, Except.ok.injEq, Prod.mk.injEq] at h
    obtain ⟨rfl, rfl⟩ := h
    exact ⟨l, rfl, rfl, by simp, by simp⟩
  | x :: xs, L, l, S, hb, h => by
    simp only [rowG] at h
    split at h
    · cases h
    · rename_i r S1 h1
      obtain ⟨r1, rfl, g1, rfl⟩ := H.read _ _ _ _ hb h1
      split at h
      · cases h
      · rename_i rs S2 h2
        obtain ⟨r2, rfl, hl, g2, rfl⟩ := row_read xs rs r1 S2 hb.right h2
        simp only [Except.ok.injEq, Prod.mk.injEq] at h
        obtain ⟨rfl, rfl⟩ := h
        refine ⟨r2, rfl, by simp [hl], fun y hy => ?_, by simp⟩
        rcases List.mem_cons.1 hy with rfl | hy
        · exact g1
        · exact g2 y hy
theorem row_back : ∀ (L L0 : List α) (rest : List Int), L0.length = L.length → (∀ x ∈ L, good x) → rowG f (.R (L.flatMap enc ++ rest)) L0 = .ok (L, .R rest)
  | [], L0, rest, hl, h => by
    rw [List.eq_nil_of_length_eq_zero hl]
    simp [rowG]
  | x :: xs, [], rest, hl, h => by simp at hl
  | x :: xs, y :: ys, rest, hl, h => by
    have hl2 : ys.length = xs.length := by simpa using hl
    simp only [rowG, List.flatMap_cons, List.append_assoc, H.back x y _ (h x List.mem_cons_self), row_back xs ys rest hl2 (fun y hy => h y (List.mem_cons_of_mem _ hy))]
theorem row_short : ∀ (L L0 : List α) (l rest : List Int), L0.length = L.length → (∀ x ∈ L, good x) → L.flatMap enc = l ++ rest → rest ≠ [] → rowG f (.R l) L0 = .error 201
  | [], L0, l, rest, hl, h, he, hr => by
    have : rest = [] := by
      have := congrArg List.length he
      simp only [List.flatMap_nil, List.length_nil, List.length_append] at this
      exact List.eq_nil_of_length_eq_zero (by omega)
    exact absurd this hr
  | x :: xs, [], l, rest, hl, h, he, hr => by simp at hl
  | x :: xs, y :: ys, l, rest, hl, h, he, hr => by
    have hl2 : ys.length = xs.length := by simpa using hl
    rw [List.flatMap_cons] at he
    rcases cut_split he hr with ⟨r1, hr1, h1⟩ | ⟨l1, rfl, h2⟩
    · simp only [rowG, H.short x y l r1 (h x List.mem_cons_self) h1 hr1]
    · simp only [rowG, H.back x y l1 (h x List.mem_cons_self), row_short xs ys l1 rest hl2 (fun y hy => h y (List.mem_cons_of_mem _ hy)) h2 hr]
theorem row_bytes (L : List α) (h : ∀ x ∈ L, good x) : Byt (L.flatMap enc) := fun y hy => by
  obtain ⟨x, hx, hxy⟩ := List.mem_flatMap.1 hy
  exact H.bytes x (h x hx) y hxy
end
theorem pad_self {α : Type} (l : List α) (z : α) : pad l l.length z = l := by
  unfold pad
  rw [List.take_of_length_le (Nat.le_refl _), List.drop_eq_nil_of_le (by simp), List.append_nil]

def encL (L : List S44) : List Int := be L.length 1 ++ L.flatMap encE
def goodL (L : List S44) : Prop := L.length ≤ 64 ∧ ∀ x ∈ L, goodE x
theorem log_law : Law logS goodL encL where
  lay := fun l v h => by
    have h1 := (count_law 1 64 2 (by decide)).lay l v.length ⟨by omega, by have := h.1; omega⟩
    simp only [logS, h1, Int.toNat_natCast, pad_self, rowL_G, row_lay ent_law v _ h.2, encL, List.append_assoc]
  read := fun l v0 v S hb h => by
    simp only [logS] at h
    split at h
    · cases h
    · rename_i n S1 h1
      obtain ⟨r1, rfl, hn, rfl⟩ := (count_law 1 64 2 (by decide)).read _ _ _ _ hb h1
      rw [rowL_G] at h
      obtain ⟨r2, rfl, hl, hg, rfl⟩ := row_read ent_law _ _ _ _ hb.right h
      rw [pad_length] at hl
      refine ⟨r2, rfl, ⟨by omega, hg⟩, ?_⟩
      rw [encL, hl, Int.toNat_of_nonneg hn.1, List.append_assoc]
  back := fun v v0 rest h => by
    have h1 := (count_law 1 64 2 (by decide)).back v.length v0.length (v.flatMap encE ++ rest) ⟨by omega, by have := h.1; omega⟩
    simp only [logS, encL, List.append_assoc, h1, Int.toNat_natCast, rowL_G, row_back ent_law v (pad v0 v.length z44) rest (pad_length _ _ _) h.2]
  short := fun v v0 l rest h he hr => by
    rcases cut_split (show be v.length 1 ++ v.flatMap encE = l ++ rest from he) hr with ⟨r1, hr1, h1⟩ | ⟨l', rfl, h2⟩
    · have h1 := (count_law 1 64 2 (by decide)).short v.length v0.length l r1 ⟨by omega, by have := h.1; omega⟩ h1 hr1
      simp only [logS, h1]
    · have h1 := (count_law 1 64 2 (by decide)).back v.length v0.length l' ⟨by omega, by have := h.1; omega⟩
      simp only [logS, h1, Int.toNat_natCast, rowL_G, row_short ent_law v (pad v0 v.length z44) l' rest (pad_length _ _ _) h.2 h2 hr]
  bytes := fun v h x hx => by
    rcases List.mem_append.1 hx with hx | hx
    · exact be_range _ _ x hx
    · exact row_bytes ent_law v h.2 x hx

def encBs (L : List (List Int)) : List Int := be L.length 2 ++ L.flatMap id
def goodBs (L : List (List Int)) : Prop := L.length ≤ 4096 ∧ ∀ x ∈ L, goodB x
theorem flat_128 : ∀ (L : List (List Int)), (∀ x ∈ L, goodB x) → (L.flatMap id).length = L.length * 128
  | [], _ => rfl
  | x :: xs, h => by
    rw [List.flatMap_cons, List.length_append, flat_128 xs (fun y hy => h y (List.mem_cons_of_mem _ hy)), List.length_cons, id, (h x List.mem_cons_self).1]
    omega
theorem blocks_law : Law blocksS goodBs encBs where
  lay := fun l v h => by
    have h1 := (count_law 2 4096 2 (by decide)).lay l v.length ⟨by omega, by have := h.1; omega⟩
    simp only [blocksS, h1, Int.toNat_natCast, pad_self, rowS_G, row_lay block_law v _ h.2, encBs, List.append_assoc, shortS]
    rfl
  read := fun l v0 v S hb h => by
    simp only [blocksS] at h
    split at h
    · cases h
    · rename_i n S1 h1
      obtain ⟨r1, rfl, hn, rfl⟩ := (count_law 2 4096 2 (by decide)).read _ _ _ _ hb h1
      split at h
      · cases h
      · rw [rowS_G] at h
        obtain ⟨r2, rfl, hl, hg, rfl⟩ := row_read block_law _ _ _ _ hb.right h
        rw [pad_length] at hl
        refine ⟨r2, rfl, ⟨by omega, hg⟩, ?_⟩
        rw [encBs, hl, Int.toNat_of_nonneg hn.1, List.append_assoc]
  back := fun v v0 rest h => by
    have h1 := (count_law 2 4096 2 (by decide)).back v.length v0.length (v.flatMap id ++ rest) ⟨by omega, by have := h.1; omega⟩
    have h2 : shortS (.R (v.flatMap id ++ rest)) v.length = false := by
      unfold shortS
      have := flat_128 v h.2
      simp only [List.length_append, this]
      exact decide_eq_false (by omega)
    simp only [blocksS, encBs, List.append_assoc, h1, Int.toNat_natCast, rowS_G, row_back block_law v (pad v0 v.length []) rest (pad_length _ _ _) h.2, h2]
    rfl
  short := fun v v0 l rest h he hr => by
    rcases cut_split (show be v.length 2 ++ v.flatMap id = l ++ rest from he) hr with ⟨r1, hr1, h1⟩ | ⟨l', rfl, h2⟩
    · have h1 := (count_law 2 4096 2 (by decide)).short v.length v0.length l r1 ⟨by omega, by have := h.1; omega⟩ h1 hr1
      simp only [blocksS, h1]
    · have h1 := (count_law 2 4096 2 (by decide)).back v.length v0.length l' ⟨by omega, by have := h.1; omega⟩
      have h3 : shortS (.R l') v.length = true := by
        unfold shortS
        have h4 := congrArg List.length h2
        rw [List.length_append, flat_128 v h.2] at h4
        have := ne_nil_pos hr
        exact decide_eq_true (by omega)
      simp only [blocksS, h1, Int.toNat_natCast, h3]
      rfl
  bytes := fun v h x hx => by
    rcases List.mem_append.1 hx with hx | hx
    · exact be_range _ _ x hx
    · exact row_bytes block_law v h.2 x hx
end Go.Proofs.Ytmjbdeoomohanaa.Mine

/- wire: Parse's deferred closure. -/
set_option linter.unusedSimpArgs false
set_option linter.unusedVariables false
namespace Go.Proofs.Ytmjbdeoomohanaa.Mine
open Go.RowKit Go.Maps Go.Proofs.YtmjbdeoomohanaaW.PrintWords Go.Proofs.YtmjbdeoomohanaaW.PrintLast Go.Proofs.YtmjbdeoomohanaaW.PrintMore Go.Proofs.Ytmjbdeoomohanaa.PWirePacks Go.Proofs.Ytmjbdeoomohanaa.Turn

theorem assert63 (x : Int) (W : World) : (Instr.typeAssert (.iface 63 (.agg #[.int .i64 x])) 20 63 true).run Try.prog W = .ok (.tuple #[.agg #[.int .i64 x], .bool true]) W := by
  simp [Instr.typeAssert, go_sem]
theorem catch_idle (p q : Addr) (w : World) :
    CallsD Try.prog 32 #[.pointer (some p), .pointer (some q)] .returning w fun e u' w' => e = .returned (.tuple #[]) ∧ u' = .returning ∧ w' = w := by
  refine callsD_of_wpS Try.func32 rfl fun c₀ cs hu => ?_
  apply wpS_seq
  apply wpS_region
  simp [wpOpsS, go_sem, recoverD, hu, Try.ntmps32, Exit.thenS]
  refine wpS_of_wp ?_
  go_wp2
  cases c₀
  simp_all [bodyPostS, results, Try.results32]

theorem Blk_drew {w : World} {b : Nat} {cs : Array Value} {t : TypeId} (h : Blk w b cs t) : Blk w.drew b cs t := h
set_option maxHeartbeats 4000000 in
theorem catch_wrong (g b : Nat) (x y : Int) (v0 v1 v2 v3 v4 v5 v6 v7 v8 v9 v10 v11 v12 v13 : Value) (older : List PanicEntry) (w : World) (hg : Blk w g #[v0, v1, v2, v3, v4, v5, v6, v7, v8, v9, v10, v11, v12, v13] 29) (hgb : g ≠ b) (hb : Blk w b #[.int .i64 y] 26) :
    CallsD Try.prog 32 #[.pointer (some ⟨g, 0, none⟩), .pointer (some ⟨b, 0, none⟩)] (.panicking ({ v := .iface 63 (.agg #[.int .i64 x]), recovered := false } :: older)) w fun e u' w' =>
      e = .returned (.tuple #[]) ∧ u' = .panicking ({ v := .iface 63 (.agg #[.int .i64 x]), recovered := true } :: older) ∧
      Turned (fun k => k = g ∨ k = b) w w' ∧ Blk w' b #[.int .i64 x] 26 ∧ Blk w' g #[.int .u8 0, .int .u64 0, .int .u64 0, .int .i64 0, .int .i64 0, .slice none 0 0, .int .u64 0, .int .u64 0, .slice none 0 0, .int .u64 0, .int .u8 0, .int .u32 0, .int .i64 0, .slice none 0 0] 29 := by
  have HG := Aside0.mk hg
  have HB := Aside0.mk hb
  have hl1 := hg.lt
  have hl2 := hb.lt
  have hg0 : World.cell? w ⟨g, 0, none⟩ = some (v0) := Blk.cell hg 0
  have hgf0 : World.frozen? w ⟨g, 0, none⟩ = false := Blk.free hg 0
  have hg1 : World.cell? w ⟨g, 1, none⟩ = some (v1) := Blk.cell hg 1
  have hgf1 : World.frozen? w ⟨g, 1, none⟩ = false := Blk.free hg 1
  have hg2 : World.cell? w ⟨g, 2, none⟩ = some (v2) := Blk.cell hg 2
  have hgf2 : World.frozen? w ⟨g, 2, none⟩ = false := Blk.free hg 2
  have hg3 : World.cell? w ⟨g, 3, none⟩ = some (v3) := Blk.cell hg 3
  have hgf3 : World.frozen? w ⟨g, 3, none⟩ = false := Blk.free hg 3
  have hg4 : World.cell? w ⟨g, 4, none⟩ = some (v4) := Blk.cell hg 4
  have hgf4 : World.frozen? w ⟨g, 4, none⟩ = false := Blk.free hg 4
  have hg5 : World.cell? w ⟨g, 5, none⟩ = some (v5) := Blk.cell hg 5
  have hgf5 : World.frozen? w ⟨g, 5, none⟩ = false := Blk.free hg 5
  have hg6 : World.cell? w ⟨g, 6, none⟩ = some (v6) := Blk.cell hg 6
  have hgf6 : World.frozen? w ⟨g, 6, none⟩ = false := Blk.free hg 6
  have hg7 : World.cell? w ⟨g, 7, none⟩ = some (v7) := Blk.cell hg 7
  have hgf7 : World.frozen? w ⟨g, 7, none⟩ = false := Blk.free hg 7
  have hg8 : World.cell? w ⟨g, 8, none⟩ = some (v8) := Blk.cell hg 8
  have hgf8 : World.frozen? w ⟨g, 8, none⟩ = false := Blk.free hg 8
  have hg9 : World.cell? w ⟨g, 9, none⟩ = some (v9) := Blk.cell hg 9
  have hgf9 : World.frozen? w ⟨g, 9, none⟩ = false := Blk.free hg 9
  have hg10 : World.cell? w ⟨g, 10, none⟩ = some (v10) := Blk.cell hg 10
  have hgf10 : World.frozen? w ⟨g, 10, none⟩ = false := Blk.free hg 10
  have hg11 : World.cell? w ⟨g, 11, none⟩ = some (v11) := Blk.cell hg 11
  have hgf11 : World.frozen? w ⟨g, 11, none⟩ = false := Blk.free hg 11
  have hg12 : World.cell? w ⟨g, 12, none⟩ = some (v12) := Blk.cell hg 12
  have hgf12 : World.frozen? w ⟨g, 12, none⟩ = false := Blk.free hg 12
  have hg13 : World.cell? w ⟨g, 13, none⟩ = some (v13) := Blk.cell hg 13
  have hgf13 : World.frozen? w ⟨g, 13, none⟩ = false := Blk.free hg 13
  have hb0 : World.cell? w ⟨b, 0, none⟩ = some (.int .i64 y) := Blk.cell hb 0
  have hbf0 : World.frozen? w ⟨b, 0, none⟩ = false := Blk.free hb 0
  have HTU : Aside0 (∀ v : World, Turned (fun k => k = g ∨ k = b) v v) := ⟨fun v => Turned.refl _ v⟩
  clear hg hb
  refine callsD_of_wpS Try.func32 rfl fun c₀ cs hu => ?_
  apply wpS_seq
  apply wpS_region
  simp [wpOpsS, go_sem, recoverD, hu, Try.ntmps32, Exit.thenS]
  have hrep : (Array.replicate 12 undef : Array Value) = #[undef, undef, undef, undef, undef, undef, undef, undef, undef, undef, undef, undef] := rfl
  have hta := fun W => assert63 x W
  refine wpS_of_wp ?_
  simp [hrep]
  clear hrep
  go_wp2_with fail
  go_region
  have k0 : Blk _ g #[.int .u8 0, v1, v2, v3, v4, v5, v6, v7, v8, v9, v10, v11, v12, v13] 29 := HG.out.set 0 (.int .u8 0)
  have k1 : Blk _ g #[.int .u8 0, .int .u64 0, v2, v3, v4, v5, v6, v7, v8, v9, v10, v11, v12, v13] 29 := k0.set 1 (.int .u64 0)
  have k2 : Blk _ g #[.int .u8 0, .int .u64 0, .int .u64 0, v3, v4, v5, v6, v7, v8, v9, v10, v11, v12, v13] 29 := k1.set 2 (.int .u64 0)
  have k3 : Blk _ g #[.int .u8 0, .int .u64 0, .int .u64 0, .int .i64 0, v4, v5, v6, v7, v8, v9, v10, v11, v12, v13] 29 := k2.set 3 (.int .i64 0)
  have k4 : Blk _ g #[.int .u8 0, .int .u64 0, .int .u64 0, .int .i64 0, .int .i64 0, v5, v6, v7, v8, v9, v10, v11, v12, v13] 29 := k3.set 4 (.int .i64 0)
  have k5 : Blk _ g #[.int .u8 0, .int .u64 0, .int .u64 0, .int .i64 0, .int .i64 0, .slice none 0 0, v6, v7, v8, v9, v10, v11, v12, v13] 29 := k4.set 5 (.slice none 0 0)
  have k6 : Blk _ g #[.int .u8 0, .int .u64 0, .int .u64 0, .int .i64 0, .int .i64 0, .slice none 0 0, .int .u64 0, v7, v8, v9, v10, v11, v12, v13] 29 := k5.set 6 (.int .u64 0)
  have k7 : Blk _ g #[.int .u8 0, .int .u64 0, .int .u64 0, .int .i64 0, .int .i64 0, .slice none 0 0, .int .u64 0, .int .u64 0, v8, v9, v10, v11, v12, v13] 29 := k6.set 7 (.int .u64 0)
  have k8 : Blk _ g #[.int .u8 0, .int .u64 0, .int .u64 0, .int .i64 0, .int .i64 0, .slice none 0 0, .int .u64 0, .int .u64 0, .slice none 0 0, v9, v10, v11, v12, v13] 29 := k7.set 8 (.slice none 0 0)
  have k9 : Blk _ g #[.int .u8 0, .int .u64 0, .int .u64 0, .int .i64 0, .int .i64 0, .slice none 0 0, .int .u64 0, .int .u64 0, .slice none 0 0, .int .u64 0, v10, v11, v12, v13] 29 := k8.set 9 (.int .u64 0)
  have k10 : Blk _ g #[.int .u8 0, .int .u64 0, .int .u64 0, .int .i64 0, .int .i64 0, .slice none 0 0, .int .u64 0, .int .u64 0, .slice none 0 0, .int .u64 0, .int .u8 0, v11, v12, v13] 29 := k9.set 10 (.int .u8 0)
  have k11 : Blk _ g #[.int .u8 0, .int .u64 0, .int .u64 0, .int .i64 0, .int .i64 0, .slice none 0 0, .int .u64 0, .int .u64 0, .slice none 0 0, .int .u64 0, .int .u8 0, .int .u32 0, v12, v13] 29 := k10.set 11 (.int .u32 0)
  have k12 : Blk _ g #[.int .u8 0, .int .u64 0, .int .u64 0, .int .i64 0, .int .i64 0, .slice none 0 0, .int .u64 0, .int .u64 0, .slice none 0 0, .int .u64 0, .int .u8 0, .int .u32 0, .int .i64 0, v13] 29 := k11.set 12 (.int .i64 0)
  have k13 : Blk _ g #[.int .u8 0, .int .u64 0, .int .u64 0, .int .i64 0, .int .i64 0, .slice none 0 0, .int .u64 0, .int .u64 0, .slice none 0 0, .int .u64 0, .int .u8 0, .int .u32 0, .int .i64 0, .slice none 0 0] 29 := k12.set 13 (.slice none 0 0)
  have hgw := k13
  have hbw := (Blk.far (Blk.far (Blk.far (Blk.far (Blk.far (Blk.far (Blk.far (Blk.far (Blk.far (Blk.far (Blk.far (Blk.far (Blk.far (Blk.far HB.out (p := ⟨g, 0, none⟩) (fun h => hgb h.symm) (.int .u8 0)) (p := ⟨g, 1, none⟩) (fun h => hgb h.symm) (.int .u64 0)) (p := ⟨g, 2, none⟩) (fun h => hgb h.symm) (.int .u64 0)) (p := ⟨g, 3, none⟩) (fun h => hgb h.symm) (.int .i64 0)) (p := ⟨g, 4, none⟩) (fun h => hgb h.symm) (.int .i64 0)) (p := ⟨g, 5, none⟩) (fun h => hgb h.symm) (.slice none 0 0)) (p := ⟨g, 6, none⟩) (fun h => hgb h.symm) (.int .u64 0)) (p := ⟨g, 7, none⟩) (fun h => hgb h.symm) (.int .u64 0)) (p := ⟨g, 8, none⟩) (fun h => hgb h.symm) (.slice none 0 0)) (p := ⟨g, 9, none⟩) (fun h => hgb h.symm) (.int .u64 0)) (p := ⟨g, 10, none⟩) (fun h => hgb h.symm) (.int .u8 0)) (p := ⟨g, 11, none⟩) (fun h => hgb h.symm) (.int .u32 0)) (p := ⟨g, 12, none⟩) (fun h => hgb h.symm) (.int .i64 0)) (p := ⟨g, 13, none⟩) (fun h => hgb h.symm) (.slice none 0 0))
  have hgw2 := Aside0.mk (((hgw.far (p := ⟨b, 0, none⟩) hgb (.int .i64 x)).alloc (.cells #[.int .i64 x] 63)))
  have hbw2 := Aside0.mk (((hbw.set 0 (.int .i64 x)).alloc (.cells #[.int .i64 x] 63)))
  clear k0 k1 k2 k3 k4 k5 k6 k7 k8 k9 k10 k11 k12 k13 hgw hbw
  have t0 := (Turned.refl (fun k => k = g ∨ k = b) w).setCell (p := ⟨g, 0, none⟩) (.inl (.inl rfl)) (.int .u8 0)
  have t1 := t0.setCell (p := ⟨g, 1, none⟩) (.inl (.inl rfl)) (.int .u64 0)
  have t2 := t1.setCell (p := ⟨g, 2, none⟩) (.inl (.inl rfl)) (.int .u64 0)
  have t3 := t2.setCell (p := ⟨g, 3, none⟩) (.inl (.inl rfl)) (.int .i64 0)
  have t4 := t3.setCell (p := ⟨g, 4, none⟩) (.inl (.inl rfl)) (.int .i64 0)
  have t5 := t4.setCell (p := ⟨g, 5, none⟩) (.inl (.inl rfl)) (.slice none 0 0)
  have t6 := t5.setCell (p := ⟨g, 6, none⟩) (.inl (.inl rfl)) (.int .u64 0)
  have t7 := t6.setCell (p := ⟨g, 7, none⟩) (.inl (.inl rfl)) (.int .u64 0)
  have t8 := t7.setCell (p := ⟨g, 8, none⟩) (.inl (.inl rfl)) (.slice none 0 0)
  have t9 := t8.setCell (p := ⟨g, 9, none⟩) (.inl (.inl rfl)) (.int .u64 0)
  have t10 := t9.setCell (p := ⟨g, 10, none⟩) (.inl (.inl rfl)) (.int .u8 0)
  have t11 := t10.setCell (p := ⟨g, 11, none⟩) (.inl (.inl rfl)) (.int .u32 0)
  have t12 := t11.setCell (p := ⟨g, 12, none⟩) (.inl (.inl rfl)) (.int .i64 0)
  have t13 := t12.setCell (p := ⟨g, 13, none⟩) (.inl (.inl rfl)) (.slice none 0 0)
  have HT := Aside0.mk (((t13.setCell (p := ⟨b, 0, none⟩) (.inl (.inr rfl)) (.int .i64 x)).alloc (.cells #[.int .i64 x] 63)).drew)
  refine ⟨rfl, .panicking ({ v := .iface 63 (.agg #[.int .i64 x]), recovered := true } :: older), ?_, .tuple #[], ?_, rfl, rfl, HT.out, Blk_drew hbw2.out, Blk_drew hgw2.out⟩
  · rfl
  · exact results_none rfl _ _ _
end Go.Proofs.Ytmjbdeoomohanaa.Mine

/- wire: Parse. -/
set_option linter.unusedSimpArgs false
set_option linter.unusedVariables false
namespace Go.Proofs.Ytmjbdeoomohanaa.Mine
open Go.RowKit Go.Maps Go.Proofs.YtmjbdeoomohanaaW.PrintWords Go.Proofs.YtmjbdeoomohanaaW.PrintLast Go.Proofs.YtmjbdeoomohanaaW.PrintMore Go.Proofs.Ytmjbdeoomohanaa.PWirePacks Go.Proofs.Ytmjbdeoomohanaa.Turn
variable {lo : Nat}

def zM (t : Int) : Msg := ⟨t, 0, 0, 0, 0, [], 0, 0, [], 0, 0, 0, 0, []⟩
def leftS : St → Nat
  | .W _ => 0
  | .R r => r.length
/-- What Parse reads. -/
def parseS (l : List Int) : Except Int Msg :=
  match numS (.R l) 0 1 with
  | .error e => .error e
  | .ok (t, S1) => if hasB t = 0 then .error 1 else
    match allS S1 (zM t) with
    | .error e => .error e
    | .ok (m, S2) => if 0 < leftS S2 then .error 6 else .ok m

/-- How Parse ends. -/
def EndsP (w : World) (x : Except Int Msg) (e : Ending) (w' : World) : Prop :=
  Below w.heap.size w w' ∧ ∃ cs, match x with
  | .ok m => e = .returned (.tuple #[.agg cs, .int .i64 0]) ∧ ArgF w' (fun k => w.heap.size ≤ k) m cs
  | .error x => e = .returned (.tuple #[.agg cs, .int .i64 x]) ∧ ArgF w' (fun k => w.heap.size ≤ k) (zM 0) cs

theorem run_results17 (tmps : Array Value) (g b : Nat) (x : Int) (w : World) (h2 : tmps[2]? = some (.pointer (some ⟨g, 0, none⟩))) (h3 : tmps[3]? = some (.pointer (some ⟨b, 0, none⟩))) (v0 v1 v2 v3 v4 v5 v6 v7 v8 v9 v10 v11 v12 v13 : Value) (hg : Blk w g #[v0, v1, v2, v3, v4, v5, v6, v7, v8, v9, v10, v11, v12, v13] 29) (hb : Blk w b #[.int .i64 x] 26) : (results Try.f17 tmps).run Try.prog w = .ok (.tuple #[.agg #[v0, v1, v2, v3, v4, v5, v6, v7, v8, v9, v10, v11, v12, v13], .int .i64 x]) w := by
  have hg0 : w.cell? ⟨g, 0, none⟩ = some v0 := (hg.cell 0).trans rfl
  have hg1 : w.cell? ⟨g, 1, none⟩ = some v1 := (hg.cell 1).trans rfl
  have hg2 : w.cell? ⟨g, 2, none⟩ = some v2 := (hg.cell 2).trans rfl
  have hg3 : w.cell? ⟨g, 3, none⟩ = some v3 := (hg.cell 3).trans rfl
  have hg4 : w.cell? ⟨g, 4, none⟩ = some v4 := (hg.cell 4).trans rfl
  have hg5 : w.cell? ⟨g, 5, none⟩ = some v5 := (hg.cell 5).trans rfl
  have hg6 : w.cell? ⟨g, 6, none⟩ = some v6 := (hg.cell 6).trans rfl
  have hg7 : w.cell? ⟨g, 7, none⟩ = some v7 := (hg.cell 7).trans rfl
  have hg8 : w.cell? ⟨g, 8, none⟩ = some v8 := (hg.cell 8).trans rfl
  have hg9 : w.cell? ⟨g, 9, none⟩ = some v9 := (hg.cell 9).trans rfl
  have hg10 : w.cell? ⟨g, 10, none⟩ = some v10 := (hg.cell 10).trans rfl
  have hg11 : w.cell? ⟨g, 11, none⟩ = some v11 := (hg.cell 11).trans rfl
  have hg12 : w.cell? ⟨g, 12, none⟩ = some v12 := (hg.cell 12).trans rfl
  have hg13 : w.cell? ⟨g, 13, none⟩ = some v13 := (hg.cell 13).trans rfl
  have hb0 : w.cell? ⟨b, 0, none⟩ = some (.int .i64 x) := (hb.cell 0).trans rfl
  clear hg hb
  simp [results, Try.results17, h2, h3, go_sem, hg0, hg1, hg2, hg3, hg4, hg5, hg6, hg7, hg8, hg9, hg10, hg11, hg12, hg13, hb0]

theorem zM_arg (w : World) (ok : Nat → Prop) : ArgF w ok (zM 0) #[.int .u8 0, .int .u64 0, .int .u64 0, .int .i64 0, .int .i64 0, .slice none 0 0, .int .u64 0, .int .u64 0, .slice none 0 0, .int .u64 0, .int .u8 0, .int .u32 0, .int .i64 0, .slice none 0 0] :=
  ⟨none, 0, none, 0, none, 0, rfl, Nat.le_refl _, Nat.le_refl _, Nat.le_refl _, Kd.F_nil _ _ _, Kd.F_nil _ _ _, Kd.F_nil _ _ _⟩

theorem leaves_wrong {w w2 : World} {tmps : Array Value} {x : Int} (h2 : tmps[2]? = some (.pointer (some ⟨w.heap.size, 0, none⟩))) (h3 : tmps[3]? = some (.pointer (some ⟨w.heap.size + 1, 0, none⟩))) (hbl : Below w.heap.size w w2) (hg : ∃ cs : Array Value, cs.size = 14 ∧ Blk w2 w.heap.size cs 29) (hb : Blk w2 (w.heap.size + 1) #[.int .i64 0] 26) :
    Leaves Try.prog Try.f17 tmps (fun e w' => EndsP w (.error x) e w') [{ target := .fn (.func 32) #[.pointer (some ⟨w.heap.size, 0, none⟩), .pointer (some ⟨w.heap.size + 1, 0, none⟩)], args := #[] }] (.panicking [{ v := .iface 63 (.agg #[.int .i64 x]), recovered := false }]) w2 := by
  obtain ⟨cs, hz, hg⟩ := hg
  obtain ⟨v0, v1, v2, v3, v4, v5, v6, v7, v8, v9, v10, v11, v12, v13, rfl⟩ : ∃ v0 v1 v2 v3 v4 v5 v6 v7 v8 v9 v10 v11 v12 v13, cs = #[v0, v1, v2, v3, v4, v5, v6, v7, v8, v9, v10, v11, v12, v13] := by
    rcases cs with ⟨l⟩
    match l, hz with
    | [v0, v1, v2, v3, v4, v5, v6, v7, v8, v9, v10, v11, v12, v13], _ => exact ⟨v0, v1, v2, v3, v4, v5, v6, v7, v8, v9, v10, v11, v12, v13, rfl⟩
  refine leaves_cons (f := 32) (args := #[.pointer (some ⟨w.heap.size, 0, none⟩), .pointer (some ⟨w.heap.size + 1, 0, none⟩)]) (by simp) (by simp [go_sem]) ?_
  refine (catch_wrong w.heap.size (w.heap.size + 1) x 0 v0 v1 v2 v3 v4 v5 v6 v7 v8 v9 v10 v11 v12 v13 [] w2 hg (by omega) hb).mono ?_
  rintro e u' w3 ⟨rfl, rfl, ht, hb', hg'⟩
  simp only [Leaves, settle, List.dropWhile]
  refine ⟨_, run_results17 tmps _ _ x w3 h2 h3 _ _ _ _ _ _ _ _ _ _ _ _ _ _ hg' hb', ?_, _, rfl, zM_arg _ _⟩
  exact below_turned hbl ht hbl.size (fun k hk => by omega)

theorem leaves_right {w w2 : World} {tmps : Array Value} {m : Msg} (h2 : tmps[2]? = some (.pointer (some ⟨w.heap.size, 0, none⟩))) (h3 : tmps[3]? = some (.pointer (some ⟨w.heap.size + 1, 0, none⟩))) (hbl : Below w.heap.size w w2) {cs : Array Value} (hg : Blk w2 w.heap.size cs 29) (hm : ArgF w2 (fun k => w.heap.size ≤ k) m cs) (hb : Blk w2 (w.heap.size + 1) #[.int .i64 0] 26) :
    Leaves Try.prog Try.f17 tmps (fun e w' => EndsP w (.ok m) e w') [{ target := .fn (.func 32) #[.pointer (some ⟨w.heap.size, 0, none⟩), .pointer (some ⟨w.heap.size + 1, 0, none⟩)], args := #[] }] .returning w2 := by
  refine leaves_cons (f := 32) (args := #[.pointer (some ⟨w.heap.size, 0, none⟩), .pointer (some ⟨w.heap.size + 1, 0, none⟩)]) (by simp) (by simp [go_sem]) ?_
  refine (catch_idle _ _ w2).mono ?_
  rintro e u' w3 ⟨rfl, rfl, rfl⟩
  simp only [Leaves, settle]
  have hm2 := hm
  obtain ⟨A5, c5, A8, c8, A13, c13, rfl, -⟩ := hm2
  exact ⟨_, run_results17 tmps _ _ 0 w3 h2 h3 _ _ _ _ _ _ _ _ _ _ _ _ _ _ hg hb, hbl, _, rfl, hm⟩

theorem ArgF.step2 {w w' : World} {ok S : Nat → Prop} {m : Msg} {cs : Array Value} {q : Nat} (h : ArgF w ok m cs) (hT : Turned S w w') (he : w'.heap[q]? = w.heap[q]?) (hS : ∀ k, ok k → k ≠ q → ¬ S k) : ArgF w' ok m cs :=
  h.step (fun k hk hlt => by
    by_cases hke : k = q
    · rw [hke]; exact he
    · exact hT.block k hlt (hS k hk hke))
theorem zM_ok (t : Int) : OkM (zM t) := by
  intro i hi
  have hd : i = 0 ∨ i = 1 ∨ i = 2 ∨ i = 3 ∨ i = 4 ∨ i = 5 ∨ i = 6 ∨ i = 7 ∨ i = 8 ∨ i = 9 ∨ i = 10 ∨ i = 11 ∨ i = 12 := by omega
  rcases hd with rfl | rfl | rfl | rfl | rfl | rfl | rfl | rfl | rfl | rfl | rfl | rfl | rfl <;> simp [okF, zM]

set_option maxHeartbeats 4000000 in
theorem parse_any {w : World} {A : Option Addr} {c : Nat} {l : List Int} (hl : l.length ≤ c) (hn : l.length ≤ 1073741824) (hb : ∀ x ∈ l, 0 ≤ x ∧ x < 256) (hr : Kd.C (Kd.int .u8) w A l.length l) :
    Calls Try.prog 17 #[.slice A l.length c] w fun e w' => EndsP w (parseS l) e w' := by
  have hmf : ∀ (fn : Fn) (first cap : Array Value) (w : World), (Instr.makeFunc fn first cap).run Try.prog w = .ok (.func fn first cap) w := fun _ _ _ _ => rfl
  have HR := Aside0.mk hr
  have HL := Aside0.mk hl
  have HN := Aside0.mk hn
  have HBY := Aside0.mk hb
  have HE := Aside0.mk (parseS.eq_def l)
  generalize parseS l = X at HE ⊢
  clear hr hb
  go_enter_defers Try.func17, Try.ntmps17
  go_wp2_with fail
  have HB0 : Aside0 (Below w.heap.size w (((w.alloc (.cells #[.int .u8 0, .int .u64 0, .int .u64 0, .int .i64 0, .int .i64 0, .slice none 0 0, .int .u64 0, .int .u64 0, .slice none 0 0, .int .u64 0, .int .u8 0, .int .u32 0, .int .i64 0, .slice none 0 0] 29)).alloc (.cells #[.int .i64 0] 26)).alloc (.cells #[.slice A l.length c, .bool true] 48))) := ⟨below_alloc (below_alloc (below_alloc (Below.refl _ _) _) _) _⟩
  have HCOD : Aside0 (Cod (((w.alloc (.cells #[.int .u8 0, .int .u64 0, .int .u64 0, .int .i64 0, .int .i64 0, .slice none 0 0, .int .u64 0, .int .u64 0, .slice none 0 0, .int .u64 0, .int .u8 0, .int .u32 0, .int .i64 0, .slice none 0 0] 29)).alloc (.cells #[.int .i64 0] 26)).alloc (.cells #[.slice A l.length c, .bool true] 48)) w.heap.size (fun k => k = w.heap.size + 1 + 1) (w.heap.size + 1 + 1) (.R l)) := by
    refine ⟨⟨rfl, fun k hk => ⟨by simp; omega, by omega⟩, A, c, ?_, HL.out, Kd.F_below (Kd.C_F (Kd.heap_int _) HR.out) HB0.out⟩⟩
    have := Blk.new ((w.alloc (.cells #[.int .u8 0, .int .u64 0, .int .u64 0, .int .i64 0, .int .i64 0, .slice none 0 0, .int .u64 0, .int .u64 0, .slice none 0 0, .int .u64 0, .int .u8 0, .int .u32 0, .int .i64 0, .slice none 0 0] 29)).alloc (.cells #[.int .i64 0] 26)) #[.slice A l.length c, .bool true] 48
    rwa [show ((w.alloc (.cells #[.int .u8 0, .int .u64 0, .int .u64 0, .int .i64 0, .int .i64 0, .slice none 0 0, .int .u64 0, .int .u64 0, .slice none 0 0, .int .u64 0, .int .u8 0, .int .u32 0, .int .i64 0, .slice none 0 0] 29)).alloc (.cells #[.int .i64 0] 26)).heap.size = w.heap.size + 1 + 1 by simp] at this
  have HMB : Aside0 (Blk (((w.alloc (.cells #[.int .u8 0, .int .u64 0, .int .u64 0, .int .i64 0, .int .i64 0, .slice none 0 0, .int .u64 0, .int .u64 0, .slice none 0 0, .int .u64 0, .int .u8 0, .int .u32 0, .int .i64 0, .slice none 0 0] 29)).alloc (.cells #[.int .i64 0] 26)).alloc (.cells #[.slice A l.length c, .bool true] 48)) w.heap.size #[.int .u8 0, .int .u64 0, .int .u64 0, .int .i64 0, .int .i64 0, .slice none 0 0, .int .u64 0, .int .u64 0, .slice none 0 0, .int .u64 0, .int .u8 0, .int .u32 0, .int .i64 0, .slice none 0 0] 29) := ⟨((Blk.new w _ 29).alloc _).alloc _⟩
  have HEB : Aside0 (Blk (((w.alloc (.cells #[.int .u8 0, .int .u64 0, .int .u64 0, .int .i64 0, .int .i64 0, .slice none 0 0, .int .u64 0, .int .u64 0, .slice none 0 0, .int .u64 0, .int .u8 0, .int .u32 0, .int .i64 0, .slice none 0 0] 29)).alloc (.cells #[.int .i64 0] 26)).alloc (.cells #[.slice A l.length c, .bool true] 48)) (w.heap.size + 1) #[.int .i64 0] 26) := by
    have := (Blk.new (w.alloc (.cells #[.int .u8 0, .int .u64 0, .int .u64 0, .int .i64 0, .int .i64 0, .slice none 0 0, .int .u64 0, .int .u64 0, .slice none 0 0, .int .u64 0, .int .u8 0, .int .u32 0, .int .i64 0, .slice none 0 0] 29)) #[.int .i64 0] 26).alloc (.cells #[.slice A l.length c, .bool true] 48)
    rw [show (w.alloc (.cells #[.int .u8 0, .int .u64 0, .int .u64 0, .int .i64 0, .int .i64 0, .slice none 0 0, .int .u64 0, .int .u64 0, .slice none 0 0, .int .u64 0, .int .u8 0, .int .u32 0, .int .i64 0, .slice none 0 0] 29)).heap.size = w.heap.size + 1 by simp] at this
    exact ⟨this⟩
  have hz3 : w.heap.size + 3 ≤ (((w.alloc (.cells #[.int .u8 0, .int .u64 0, .int .u64 0, .int .i64 0, .int .i64 0, .slice none 0 0, .int .u64 0, .int .u64 0, .slice none 0 0, .int .u64 0, .int .u8 0, .int .u32 0, .int .i64 0, .slice none 0 0] 29)).alloc (.cells #[.int .i64 0] 26)).alloc (.cells #[.slice A l.length c, .bool true] 48)).heap.size := by simp
  have hl0 : (((w.alloc (.cells #[.int .u8 0, .int .u64 0, .int .u64 0, .int .i64 0, .int .i64 0, .slice none 0 0, .int .u64 0, .int .u64 0, .slice none 0 0, .int .u64 0, .int .u8 0, .int .u32 0, .int .i64 0, .slice none 0 0] 29)).alloc (.cells #[.int .i64 0] 26)).alloc (.cells #[.slice A l.length c, .bool true] 48)).heap.size = w.heap.size + 3 := by simp
  have HL0 := Aside0.mk hl0
  clear hz3 hl0
  generalize (((w.alloc (.cells #[.int .u8 0, .int .u64 0, .int .u64 0, .int .i64 0, .int .i64 0, .slice none 0 0, .int .u64 0, .int .u64 0, .slice none 0 0, .int .u64 0, .int .u8 0, .int .u32 0, .int .i64 0, .slice none 0 0] 29)).alloc (.cells #[.int .i64 0] 26)).alloc (.cells #[.slice A l.length c, .bool true] 48)) = W3 at *
  have HOKS : Aside0 (OkT 1073741824 (.R l)) := ⟨⟨HN.out, HBY.out⟩⟩
  refine (number_any HCOD.out (HOKS.out.ok (by omega)) 0 (by omega) (by omega) 1 (by omega) (by omega)).mono ?_
  obtain ⟨y, hy⟩ : ∃ y, step (.R l) (be 0 1) 1 = y := ⟨_, rfl⟩
  rw [hy]
  have HY := Aside0.mk hy
  clear hy
  cases y with
  | error y =>
    rintro e w2 ⟨G', hG', hT', he⟩
    have he2 : e = .panicked [{ v := .iface 63 (.agg #[.int .i64 y]), recovered := false }] := he
    subst he2
    have HX : Aside0 (X = .error y) := ⟨by rw [HE.out]; simp [numS, HY.out]⟩
    have HLV : Aside0 (∀ tmps : Array Value, tmps[2]? = some (.pointer (some ⟨w.heap.size, 0, none⟩)) → tmps[3]? = some (.pointer (some ⟨w.heap.size + 1, 0, none⟩)) → Leaves Try.prog Try.f17 tmps (fun e w' => EndsP w (.error y) e w') [{ target := .fn (.func 32) #[.pointer (some ⟨w.heap.size, 0, none⟩), .pointer (some ⟨w.heap.size + 1, 0, none⟩)], args := #[] }] (.panicking [{ v := .iface 63 (.agg #[.int .i64 y]), recovered := false }]) w2) :=
      ⟨fun tmps h2 h3 => leaves_wrong h2 h3 (below_turned HB0.out hT' HB0.out.size (fun k hk => by omega)) ⟨_, rfl, hT'.blk HMB.out (by omega)⟩ (hT'.blk HEB.out (by omega))⟩
    clear hG' hT' he HE
    go_wp2_with fail
    rw [HX.out]
    exact HLV.out _ rfl rfl
  | ok y =>
    obtain ⟨r, S1⟩ := y
    rintro e w2 ⟨G', hG', hT', rfl, hC2⟩
    have hso := step_ok (HOKS.out.ok (by omega)) (be_range 0 1) (be_len 0 1) HY.out
    have hvr := val_range hso.2 1 (by rw [hso.1]; omega)
    rw [List.take_of_length_le (by rw [hso.1]; omega)] at hvr
    obtain ⟨hv0, hv1⟩ := hvr
    have HX : Aside0 (X = (if hasB (val r) = 0 then .error 1 else match allS S1 (zM (val r)) with
      | .error e => .error e
      | .ok (m, S2) => if 0 < leftS S2 then .error 6 else .ok m)) := ⟨by rw [HE.out]; simp only [numS, HY.out]⟩
    have HOK1 := Aside0.mk (HOKS.out.step HY.out)
    obtain ⟨t, ht⟩ : ∃ t, val r = t := ⟨_, rfl⟩
    rw [ht] at HX hv0 hv1 ⊢
    have hv2 : t < 256 := hv1
    have hwr : IntKind.u8.wrap t = t := by rw [IntKind.wrap_u8]; omega
    have hmb := hT'.blk HMB.out (show ¬ w.heap.size = w.heap.size + 1 + 1 by omega)
    have HMB2 := Aside0.mk hmb
    have HEB2 := Aside0.mk (hT'.blk HEB.out (show ¬ w.heap.size + 1 = w.heap.size + 1 + 1 by omega))
    have hmb0 : World.cell? w2 ⟨w.heap.size, 0, none⟩ = some (.int .u8 0) := Blk.cell hmb 0
    have hmbf0 : World.frozen? w2 ⟨w.heap.size, 0, none⟩ = false := Blk.free hmb 0
    have hl2 := Blk.lt hmb
    have HC2 := Aside0.mk hC2
    have HB2 := Aside0.mk (below_turned HB0.out hT' HB0.out.size (fun k hk => by omega))
    have HG := Aside0.mk hG'
    have HYM := HY
    clear hso hv1 ht HE hG' hT' hC2 hmb HMB HEB HB0
    go_wp2_with fail
    have HB3 : Aside0 (Below w.heap.size w (w2.setCell ⟨w.heap.size, 0, none⟩ (.int .u8 t))) := ⟨below_turned HB2.out ((Turned.refl (fun k => k = w.heap.size) w2).setCell (.inl rfl) _) HB2.out.size (fun k hk => by omega)⟩
    have hg0 : ¬ G' w.heap.size := fun h => (HG.out _ h).elim (fun h => by omega) (fun h => by have := HL0.out; omega)
    have HG0 := Aside0.mk hg0
    refine (has_any t hv0 (by omega) _).mono ?_
    rintro e w5 ⟨rfl, hb5⟩
    have HMB5 : Aside0 (Blk w5 w.heap.size #[.int .u8 t, .int .u64 0, .int .u64 0, .int .i64 0, .int .i64 0, .slice none 0 0, .int .u64 0, .int .u64 0, .slice none 0 0, .int .u64 0, .int .u8 0, .int .u32 0, .int .i64 0, .slice none 0 0] 29) := ⟨(hb5.block _ (by simp [World.setCell]; exact hl2)).trans (Blk.set HMB2.out 0 (.int .u8 t))⟩
    have HEB5 : Aside0 (Blk w5 (w.heap.size + 1) #[.int .i64 0] 26) := ⟨(hb5.block _ (by simp [World.setCell]; exact Blk.lt HEB2.out)).trans (Blk.far (p := ⟨w.heap.size, 0, none⟩) HEB2.out (by simp) _)⟩
    have HB5 := Aside0.mk (below_step HB3.out hb5)
    have HC5 := Aside0.mk ((HC2.out.step (X := fun k => k = w.heap.size) ((Turned.refl (fun k => k = w.heap.size) w2).setCell (.inl rfl) (.int .u8 t)) (fun k hk => by rw [hk]; exact ⟨hg0, Nat.le_refl _⟩)).below hb5)
    rw [(hasN_nat t).1]
    have HHB := Aside0.mk (hasN_nat t).2
    obtain ⟨hh, hhe⟩ : ∃ hh, hasB t = hh := ⟨_, rfl⟩
    rw [hhe] at HX ⊢
    clear hhe hb5 hg0 HB3 HMB2 HEB2 HC2 HB2 hmb0 hmbf0 hl2
    by_cases hz : hh = 0
    · have hz1 : ((hh : Int) == 0) = true := by rw [hz]; rfl
      have HX2 : Aside0 (X = .error 1) := ⟨by rw [HX.out, if_pos hz]⟩
      have HLV : Aside0 (∀ tmps : Array Value, tmps[2]? = some (.pointer (some ⟨w.heap.size, 0, none⟩)) → tmps[3]? = some (.pointer (some ⟨w.heap.size + 1, 0, none⟩)) → Leaves Try.prog Try.f17 tmps (fun e w' => EndsP w (.error 1) e w') [{ target := .fn (.func 32) #[.pointer (some ⟨w.heap.size, 0, none⟩), .pointer (some ⟨w.heap.size + 1, 0, none⟩)], args := #[] }] (.panicking [{ v := .iface 63 (.agg #[.int .i64 1]), recovered := false }]) w5) :=
        ⟨fun tmps h2 h3 => leaves_wrong h2 h3 HB5.out ⟨_, rfl, HMB5.out⟩ HEB5.out⟩
      clear hz HX
      go_wp2_with fail
      rw [HX2.out]
      exact HLV.out _ rfl rfl
    · have hz1 : ((hh : Int) == 0) = false := beq_eq_false_iff_ne.2 (by omega)
      have HX2 : Aside0 (X = (match allS S1 (zM t) with
        | .error e => .error e
        | .ok (m, S2) => if 0 < leftS S2 then .error 6 else .ok m)) := ⟨by rw [HX.out, if_neg hz]⟩
      have HMA : Aside0 (MsgAt 0 w5 w.heap.size G' (zM t)) := ⟨⟨none, 0, none, 0, none, 0, HMB5.out, Nat.le_refl _, Nat.le_refl _, Nat.le_refl _, Kd.F_nil _ _ _, Kd.F_nil _ _ _, Kd.F_nil _ _ _⟩⟩
      have HAL := Aside0.mk (allM_any HC5.out HMA.out HG0.out (Nat.le_refl _) HOK1.out (by rw [be_len]; omega) (zM_ok t) hv0 (by show t ≤ 255; omega))
      obtain ⟨y, hy⟩ : ∃ y, allS S1 (zM t) = y := ⟨_, rfl⟩
      rw [hy] at HAL HX2
      have HMO := Aside0.mk (fun {m' : Msg} {S' : St} (e : y = .ok (m', S')) => allS_mode (hy.trans e))
      clear hy hz HX HMA
      go_wp2_with fail
      refine HAL.out.mono ?_
      cases y with
      | error y =>
        rintro e w6 ⟨G3, hG3, hT3, he, hbk⟩
        have he2 : e = .panicked [{ v := .iface 63 (.agg #[.int .i64 y]), recovered := false }] := he
        subst he2
        have HLV : Aside0 (∀ tmps : Array Value, tmps[2]? = some (.pointer (some ⟨w.heap.size, 0, none⟩)) → tmps[3]? = some (.pointer (some ⟨w.heap.size + 1, 0, none⟩)) → Leaves Try.prog Try.f17 tmps (fun e w' => EndsP w (.error y) e w') [{ target := .fn (.func 32) #[.pointer (some ⟨w.heap.size, 0, none⟩), .pointer (some ⟨w.heap.size + 1, 0, none⟩)], args := #[] }] (.panicking [{ v := .iface 63 (.agg #[.int .i64 y]), recovered := false }]) w6) :=
          ⟨fun tmps h2 h3 => leaves_wrong h2 h3 (below_turned HB5.out hT3 HB5.out.size (fun k hk => hk.elim (fun h => (HC5.out.2.1 k h).2) (fun h => by omega))) hbk (hT3.blk HEB5.out (fun hk => hk.elim (fun h => (HG.out _ h).elim (fun h => by omega) (fun h => by have := HL0.out; omega)) (fun h => by omega)))⟩
        clear hG3 hT3 he hbk
        go_wp2_with fail
        rw [HX2.out]
        exact HLV.out _ rfl rfl
      | ok y =>
        obtain ⟨m, S2⟩ := y
        rintro e w6 ⟨G3, hG3, hT3, rfl, hC6, hM6, hg6⟩
        obtain ⟨r, rfl⟩ : ∃ r, S2 = .R r := by
          have := HMO.out rfl
          have h1 : isR S1 = true := by
            have := HC5.out
            cases S1 with
            | R l => rfl
            | W l => have h2 := step_mode HYM.out; cases h2
          rw [h1] at this
          cases S2 with
          | R r => exact ⟨r, rfl⟩
          | W l => cases this
        have HX3 : Aside0 (X = if 0 < r.length then .error 6 else .ok m) := ⟨HX2.out⟩
        have hG36 : ∀ k, G3 k → w.heap.size ≤ k := fun k hk => (hG3 k hk).elim (fun h => (HC5.out.2.1 k h).2) (fun h => Nat.le_trans HB5.out.size h)
        have hb6 := below_turned HB5.out hT3 HB5.out.size (fun k hk => hk.elim (fun h => (HC5.out.2.1 k h).2) (fun h => by omega))
        have HEB6 : Aside0 (Blk w6 (w.heap.size + 1) #[.int .i64 0] 26) := ⟨hT3.blk HEB5.out (fun hk => hk.elim (fun h => (HG.out _ h).elim (fun h => by omega) (fun h => by have := HL0.out; omega)) (fun h => by omega))⟩
        obtain ⟨A5, c5, A8, c8, A13, c13, hx, hl1, hl2, hl3, h5, h8, h13⟩ := hM6
        have HX14 : Aside0 (Blk w6 w.heap.size #[.int .u8 m.ty, .int .u64 m.view, .int .u64 m.normal, .int .i64 m.op, .int .i64 m.commit, .slice A5 m.log.length c5, .int .u64 m.client, .int .u64 m.seq, .slice A8 m.body.length c8, .int .u64 m.key, .int .u8 m.shard, .int .u32 m.stripe, .int .i64 m.code, .slice A13 m.blocks.length c13] 29) := ⟨hx⟩
        obtain ⟨q1, q2, A0, c0, q3, q4, q5⟩ := hC6
        have p0 : w6.cell? ⟨w.heap.size + 1 + 1, 0, none⟩ = some (.slice A0 r.length c0) := (q3.cell 0).trans rfl
        have hlb := q3.lt
        have HARG : Aside0 (ArgF w6 (fun k => ¬ G3 k ∧ Off 0 w.heap.size k) m #[.int .u8 m.ty, .int .u64 m.view, .int .u64 m.normal, .int .i64 m.op, .int .i64 m.commit, .slice A5 m.log.length c5, .int .u64 m.client, .int .u64 m.seq, .slice A8 m.body.length c8, .int .u64 m.key, .int .u8 m.shard, .int .u32 m.stripe, .int .i64 m.code, .slice A13 m.blocks.length c13]) := ⟨⟨A5, c5, A8, c8, A13, c13, rfl, hl1, hl2, hl3, h5, h8, h13⟩⟩
        have HB6 := Aside0.mk hb6
        by_cases hr : 0 < r.length
        · have HX4 : Aside0 (X = .error 6) := ⟨by rw [HX3.out, if_pos hr]⟩
          have hr1 : decide (0 < r.length) = true := by simpa using hr
          have HLV : Aside0 (∀ tmps : Array Value, tmps[2]? = some (.pointer (some ⟨w.heap.size, 0, none⟩)) → tmps[3]? = some (.pointer (some ⟨w.heap.size + 1, 0, none⟩)) → Leaves Try.prog Try.f17 tmps (fun e w' => EndsP w (.error 6) e w') [{ target := .fn (.func 32) #[.pointer (some ⟨w.heap.size, 0, none⟩), .pointer (some ⟨w.heap.size + 1, 0, none⟩)], args := #[] }] (.panicking [{ v := .iface 63 (.agg #[.int .i64 6]), recovered := false }]) w6) :=
            ⟨fun tmps h2 h3 => leaves_wrong h2 h3 hb6 ⟨_, rfl, HX14.out⟩ HEB6.out⟩
          clear hG3 hT3 hg6 hG36 hb6 hx hl1 hl2 hl3 h5 h8 h13 q1 q2 q3 q4 q5 hr HX2 HX3
          go_wp2_with fail
          rw [HX4.out]
          exact HLV.out _ rfl rfl
        · have HX4 : Aside0 (X = .ok m) := ⟨by rw [HX3.out, if_neg hr]⟩
          have hr1 : decide (0 < r.length) = false := by simpa using hr
          have hx14 := HX14.out
          have hx140 : World.cell? w6 ⟨w.heap.size, 0, none⟩ = some (.int .u8 m.ty) := Blk.cell hx14 0
          have hx14f0 : World.frozen? w6 ⟨w.heap.size, 0, none⟩ = false := Blk.free hx14 0
          have hx141 : World.cell? w6 ⟨w.heap.size, 1, none⟩ = some (.int .u64 m.view) := Blk.cell hx14 1
          have hx14f1 : World.frozen? w6 ⟨w.heap.size, 1, none⟩ = false := Blk.free hx14 1
          have hx142 : World.cell? w6 ⟨w.heap.size, 2, none⟩ = some (.int .u64 m.normal) := Blk.cell hx14 2
          have hx14f2 : World.frozen? w6 ⟨w.heap.size, 2, none⟩ = false := Blk.free hx14 2
          have hx143 : World.cell? w6 ⟨w.heap.size, 3, none⟩ = some (.int .i64 m.op) := Blk.cell hx14 3
          have hx14f3 : World.frozen? w6 ⟨w.heap.size, 3, none⟩ = false := Blk.free hx14 3
          have hx144 : World.cell? w6 ⟨w.heap.size, 4, none⟩ = some (.int .i64 m.commit) := Blk.cell hx14 4
          have hx14f4 : World.frozen? w6 ⟨w.heap.size, 4, none⟩ = false := Blk.free hx14 4
          have hx145 : World.cell? w6 ⟨w.heap.size, 5, none⟩ = some (.slice A5 m.log.length c5) := Blk.cell hx14 5
          have hx14f5 : World.frozen? w6 ⟨w.heap.size, 5, none⟩ = false := Blk.free hx14 5
          have hx146 : World.cell? w6 ⟨w.heap.size, 6, none⟩ = some (.int .u64 m.client) := Blk.cell hx14 6
          have hx14f6 : World.frozen? w6 ⟨w.heap.size, 6, none⟩ = false := Blk.free hx14 6
          have hx147 : World.cell? w6 ⟨w.heap.size, 7, none⟩ = some (.int .u64 m.seq) := Blk.cell hx14 7
          have hx14f7 : World.frozen? w6 ⟨w.heap.size, 7, none⟩ = false := Blk.free hx14 7
          have hx148 : World.cell? w6 ⟨w.heap.size, 8, none⟩ = some (.slice A8 m.body.length c8) := Blk.cell hx14 8
          have hx14f8 : World.frozen? w6 ⟨w.heap.size, 8, none⟩ = false := Blk.free hx14 8
          have hx149 : World.cell? w6 ⟨w.heap.size, 9, none⟩ = some (.int .u64 m.key) := Blk.cell hx14 9
          have hx14f9 : World.frozen? w6 ⟨w.heap.size, 9, none⟩ = false := Blk.free hx14 9
          have hx1410 : World.cell? w6 ⟨w.heap.size, 10, none⟩ = some (.int .u8 m.shard) := Blk.cell hx14 10
          have hx14f10 : World.frozen? w6 ⟨w.heap.size, 10, none⟩ = false := Blk.free hx14 10
          have hx1411 : World.cell? w6 ⟨w.heap.size, 11, none⟩ = some (.int .u32 m.stripe) := Blk.cell hx14 11
          have hx14f11 : World.frozen? w6 ⟨w.heap.size, 11, none⟩ = false := Blk.free hx14 11
          have hx1412 : World.cell? w6 ⟨w.heap.size, 12, none⟩ = some (.int .i64 m.code) := Blk.cell hx14 12
          have hx14f12 : World.frozen? w6 ⟨w.heap.size, 12, none⟩ = false := Blk.free hx14 12
          have hx1413 : World.cell? w6 ⟨w.heap.size, 13, none⟩ = some (.slice A13 m.blocks.length c13) := Blk.cell hx14 13
          have hx14f13 : World.frozen? w6 ⟨w.heap.size, 13, none⟩ = false := Blk.free hx14 13
          have heb := HEB6.out
          have heb0 : World.cell? w6 ⟨(w.heap.size + 1), 0, none⟩ = some (.int .i64 0) := Blk.cell heb 0
          have hebf0 : World.frozen? w6 ⟨(w.heap.size + 1), 0, none⟩ = false := Blk.free heb 0
          have hle := Blk.lt heb
          have hlx := Blk.lt hx14
          clear hG3 hT3 hg6 hG36 hb6 hx hl1 hl2 hl3 h5 h8 h13 q1 q2 q3 q4 q5 hr HX2 HX3 hx14 heb
          go_wp2_with fail
          have k0 : Blk _ w.heap.size #[.int .u8 m.ty, .int .u64 m.view, .int .u64 m.normal, .int .i64 m.op, .int .i64 m.commit, .slice A5 m.log.length c5, .int .u64 m.client, .int .u64 m.seq, .slice A8 m.body.length c8, .int .u64 m.key, .int .u8 m.shard, .int .u32 m.stripe, .int .i64 m.code, .slice A13 m.blocks.length c13] 29 := Blk.set HX14.out 0 (.int .u8 m.ty)
          have k1 : Blk _ w.heap.size #[.int .u8 m.ty, .int .u64 m.view, .int .u64 m.normal, .int .i64 m.op, .int .i64 m.commit, .slice A5 m.log.length c5, .int .u64 m.client, .int .u64 m.seq, .slice A8 m.body.length c8, .int .u64 m.key, .int .u8 m.shard, .int .u32 m.stripe, .int .i64 m.code, .slice A13 m.blocks.length c13] 29 := Blk.set k0 1 (.int .u64 m.view)
          have k2 : Blk _ w.heap.size #[.int .u8 m.ty, .int .u64 m.view, .int .u64 m.normal, .int .i64 m.op, .int .i64 m.commit, .slice A5 m.log.length c5, .int .u64 m.client, .int .u64 m.seq, .slice A8 m.body.length c8, .int .u64 m.key, .int .u8 m.shard, .int .u32 m.stripe, .int .i64 m.code, .slice A13 m.blocks.length c13] 29 := Blk.set k1 2 (.int .u64 m.normal)
          have k3 : Blk _ w.heap.size #[.int .u8 m.ty, .int .u64 m.view, .int .u64 m.normal, .int .i64 m.op, .int .i64 m.commit, .slice A5 m.log.length c5, .int .u64 m.client, .int .u64 m.seq, .slice A8 m.body.length c8, .int .u64 m.key, .int .u8 m.shard, .int .u32 m.stripe, .int .i64 m.code, .slice A13 m.blocks.length c13] 29 := Blk.set k2 3 (.int .i64 m.op)
          have k4 : Blk _ w.heap.size #[.int .u8 m.ty, .int .u64 m.view, .int .u64 m.normal, .int .i64 m.op, .int .i64 m.commit, .slice A5 m.log.length c5, .int .u64 m.client, .int .u64 m.seq, .slice A8 m.body.length c8, .int .u64 m.key, .int .u8 m.shard, .int .u32 m.stripe, .int .i64 m.code, .slice A13 m.blocks.length c13] 29 := Blk.set k3 4 (.int .i64 m.commit)
          have k5 : Blk _ w.heap.size #[.int .u8 m.ty, .int .u64 m.view, .int .u64 m.normal, .int .i64 m.op, .int .i64 m.commit, .slice A5 m.log.length c5, .int .u64 m.client, .int .u64 m.seq, .slice A8 m.body.length c8, .int .u64 m.key, .int .u8 m.shard, .int .u32 m.stripe, .int .i64 m.code, .slice A13 m.blocks.length c13] 29 := Blk.set k4 5 (.slice A5 m.log.length c5)
          have k6 : Blk _ w.heap.size #[.int .u8 m.ty, .int .u64 m.view, .int .u64 m.normal, .int .i64 m.op, .int .i64 m.commit, .slice A5 m.log.length c5, .int .u64 m.client, .int .u64 m.seq, .slice A8 m.body.length c8, .int .u64 m.key, .int .u8 m.shard, .int .u32 m.stripe, .int .i64 m.code, .slice A13 m.blocks.length c13] 29 := Blk.set k5 6 (.int .u64 m.client)
          have k7 : Blk _ w.heap.size #[.int .u8 m.ty, .int .u64 m.view, .int .u64 m.normal, .int .i64 m.op, .int .i64 m.commit, .slice A5 m.log.length c5, .int .u64 m.client, .int .u64 m.seq, .slice A8 m.body.length c8, .int .u64 m.key, .int .u8 m.shard, .int .u32 m.stripe, .int .i64 m.code, .slice A13 m.blocks.length c13] 29 := Blk.set k6 7 (.int .u64 m.seq)
          have k8 : Blk _ w.heap.size #[.int .u8 m.ty, .int .u64 m.view, .int .u64 m.normal, .int .i64 m.op, .int .i64 m.commit, .slice A5 m.log.length c5, .int .u64 m.client, .int .u64 m.seq, .slice A8 m.body.length c8, .int .u64 m.key, .int .u8 m.shard, .int .u32 m.stripe, .int .i64 m.code, .slice A13 m.blocks.length c13] 29 := Blk.set k7 8 (.slice A8 m.body.length c8)
          have k9 : Blk _ w.heap.size #[.int .u8 m.ty, .int .u64 m.view, .int .u64 m.normal, .int .i64 m.op, .int .i64 m.commit, .slice A5 m.log.length c5, .int .u64 m.client, .int .u64 m.seq, .slice A8 m.body.length c8, .int .u64 m.key, .int .u8 m.shard, .int .u32 m.stripe, .int .i64 m.code, .slice A13 m.blocks.length c13] 29 := Blk.set k8 9 (.int .u64 m.key)
          have k10 : Blk _ w.heap.size #[.int .u8 m.ty, .int .u64 m.view, .int .u64 m.normal, .int .i64 m.op, .int .i64 m.commit, .slice A5 m.log.length c5, .int .u64 m.client, .int .u64 m.seq, .slice A8 m.body.length c8, .int .u64 m.key, .int .u8 m.shard, .int .u32 m.stripe, .int .i64 m.code, .slice A13 m.blocks.length c13] 29 := Blk.set k9 10 (.int .u8 m.shard)
          have k11 : Blk _ w.heap.size #[.int .u8 m.ty, .int .u64 m.view, .int .u64 m.normal, .int .i64 m.op, .int .i64 m.commit, .slice A5 m.log.length c5, .int .u64 m.client, .int .u64 m.seq, .slice A8 m.body.length c8, .int .u64 m.key, .int .u8 m.shard, .int .u32 m.stripe, .int .i64 m.code, .slice A13 m.blocks.length c13] 29 := Blk.set k10 11 (.int .u32 m.stripe)
          have k12 : Blk _ w.heap.size #[.int .u8 m.ty, .int .u64 m.view, .int .u64 m.normal, .int .i64 m.op, .int .i64 m.commit, .slice A5 m.log.length c5, .int .u64 m.client, .int .u64 m.seq, .slice A8 m.body.length c8, .int .u64 m.key, .int .u8 m.shard, .int .u32 m.stripe, .int .i64 m.code, .slice A13 m.blocks.length c13] 29 := Blk.set k11 12 (.int .i64 m.code)
          have k13 : Blk _ w.heap.size #[.int .u8 m.ty, .int .u64 m.view, .int .u64 m.normal, .int .i64 m.op, .int .i64 m.commit, .slice A5 m.log.length c5, .int .u64 m.client, .int .u64 m.seq, .slice A8 m.body.length c8, .int .u64 m.key, .int .u8 m.shard, .int .u32 m.stripe, .int .i64 m.code, .slice A13 m.blocks.length c13] 29 := Blk.set k12 13 (.slice A13 m.blocks.length c13)
          have t0 := (Turned.refl (fun k => k = w.heap.size ∨ k = w.heap.size + 1) w6).setCell (p := ⟨w.heap.size, 0, none⟩) (.inl (.inl rfl)) (.int .u8 m.ty)
          have t1 := t0.setCell (p := ⟨w.heap.size, 1, none⟩) (.inl (.inl rfl)) (.int .u64 m.view)
          have t2 := t1.setCell (p := ⟨w.heap.size, 2, none⟩) (.inl (.inl rfl)) (.int .u64 m.normal)
          have t3 := t2.setCell (p := ⟨w.heap.size, 3, none⟩) (.inl (.inl rfl)) (.int .i64 m.op)
          have t4 := t3.setCell (p := ⟨w.heap.size, 4, none⟩) (.inl (.inl rfl)) (.int .i64 m.commit)
          have t5 := t4.setCell (p := ⟨w.heap.size, 5, none⟩) (.inl (.inl rfl)) (.slice A5 m.log.length c5)
          have t6 := t5.setCell (p := ⟨w.heap.size, 6, none⟩) (.inl (.inl rfl)) (.int .u64 m.client)
          have t7 := t6.setCell (p := ⟨w.heap.size, 7, none⟩) (.inl (.inl rfl)) (.int .u64 m.seq)
          have t8 := t7.setCell (p := ⟨w.heap.size, 8, none⟩) (.inl (.inl rfl)) (.slice A8 m.body.length c8)
          have t9 := t8.setCell (p := ⟨w.heap.size, 9, none⟩) (.inl (.inl rfl)) (.int .u64 m.key)
          have t10 := t9.setCell (p := ⟨w.heap.size, 10, none⟩) (.inl (.inl rfl)) (.int .u8 m.shard)
          have t11 := t10.setCell (p := ⟨w.heap.size, 11, none⟩) (.inl (.inl rfl)) (.int .u32 m.stripe)
          have t12 := t11.setCell (p := ⟨w.heap.size, 12, none⟩) (.inl (.inl rfl)) (.int .i64 m.code)
          have t13 := t12.setCell (p := ⟨w.heap.size, 13, none⟩) (.inl (.inl rfl)) (.slice A13 m.blocks.length c13)
          have hT7 := t13.setCell (p := ⟨w.heap.size + 1, 0, none⟩) (.inl (.inr rfl)) (.int .i64 0)
          have hg7 := Blk.far k13 (p := ⟨w.heap.size + 1, 0, none⟩) (by simp) (.int .i64 0)
          have he7 := Blk.set (Blk.far (Blk.far (Blk.far (Blk.far (Blk.far (Blk.far (Blk.far (Blk.far (Blk.far (Blk.far (Blk.far (Blk.far (Blk.far (Blk.far HEB6.out (p := ⟨w.heap.size, 0, none⟩) (by simp) (.int .u8 m.ty)) (p := ⟨w.heap.size, 1, none⟩) (by simp) (.int .u64 m.view)) (p := ⟨w.heap.size, 2, none⟩) (by simp) (.int .u64 m.normal)) (p := ⟨w.heap.size, 3, none⟩) (by simp) (.int .i64 m.op)) (p := ⟨w.heap.size, 4, none⟩) (by simp) (.int .i64 m.commit)) (p := ⟨w.heap.size, 5, none⟩) (by simp) (.slice A5 m.log.length c5)) (p := ⟨w.heap.size, 6, none⟩) (by simp) (.int .u64 m.client)) (p := ⟨w.heap.size, 7, none⟩) (by simp) (.int .u64 m.seq)) (p := ⟨w.heap.size, 8, none⟩) (by simp) (.slice A8 m.body.length c8)) (p := ⟨w.heap.size, 9, none⟩) (by simp) (.int .u64 m.key)) (p := ⟨w.heap.size, 10, none⟩) (by simp) (.int .u8 m.shard)) (p := ⟨w.heap.size, 11, none⟩) (by simp) (.int .u32 m.stripe)) (p := ⟨w.heap.size, 12, none⟩) (by simp) (.int .i64 m.code)) (p := ⟨w.heap.size, 13, none⟩) (by simp) (.slice A13 m.blocks.length c13)) 0 (.int .i64 0)
          have he8 := Eq.trans (show Blk _ (w.heap.size + 1) #[.int .i64 0] 26 from he7) HEB6.out.symm
          have ha7 := HARG.out.step2 hT7 he8 (fun k hk hne h => h.elim (fun h => hk.2.1 h) hne)
          rw [HX4.out]
          exact leaves_right rfl rfl (below_turned HB6.out hT7 HB6.out.size (fun k hk => by omega)) hg7 (ha7.mono (fun k hk => by have := hk.2; omega)) he7
end Go.Proofs.Ytmjbdeoomohanaa.Mine

/- wire: the plain law of messages. -/
set_option linter.unusedSimpArgs false
set_option linter.unusedVariables false
namespace Go.Proofs.Ytmjbdeoomohanaa.Mine
open Go.RowKit Go.Maps Go.Proofs.YtmjbdeoomohanaaW.PrintWords Go.Proofs.YtmjbdeoomohanaaW.PrintLast Go.Proofs.YtmjbdeoomohanaaW.PrintMore Go.Proofs.Ytmjbdeoomohanaa.PWirePacks Go.Proofs.Ytmjbdeoomohanaa.Turn

def encF : Nat → Msg → List Int
  | 0, m => be m.view 8
  | 1, m => be m.normal 8
  | 2, m => be m.op 1
  | 3, m => be m.commit 1
  | 4, m => encL m.log
  | 5, m => be m.client 8
  | 6, m => be m.seq 8
  | 7, m => encT m.body
  | 8, m => be m.key 8
  | 9, m => be m.shard 1
  | 10, m => be m.stripe 4
  | 11, m => be m.code 2
  | _, m => encBs m.blocks
def goodF : Nat → Msg → Prop
  | 0, m => 0 ≤ m.view ∧ m.view < 256 ^ 8
  | 1, m => 0 ≤ m.normal ∧ m.normal < 256 ^ 8
  | 2, m => 0 ≤ m.op ∧ m.op ≤ 64
  | 3, m => 0 ≤ m.commit ∧ m.commit ≤ 64
  | 4, m => goodL m.log
  | 5, m => 0 ≤ m.client ∧ m.client < 256 ^ 8
  | 6, m => 0 ≤ m.seq ∧ m.seq < 256 ^ 8
  | 7, m => goodT m.body
  | 8, m => 0 ≤ m.key ∧ m.key < 256 ^ 8
  | 9, m => 0 ≤ m.shard ∧ m.shard < 256 ^ 1
  | 10, m => 0 ≤ m.stripe ∧ m.stripe < 256 ^ 4
  | 11, m => 0 ≤ m.code ∧ m.code < 256 ^ 2
  | _, m => goodBs m.blocks
def sameF : Nat → Msg → Msg → Prop
  | 0, m, m2 => m.view = m2.view
  | 1, m, m2 => m.normal = m2.normal
  | 2, m, m2 => m.op = m2.op
  | 3, m, m2 => m.commit = m2.commit
  | 4, m, m2 => m.log = m2.log
  | 5, m, m2 => m.client = m2.client
  | 6, m, m2 => m.seq = m2.seq
  | 7, m, m2 => m.body = m2.body
  | 8, m, m2 => m.key = m2.key
  | 9, m, m2 => m.shard = m2.shard
  | 10, m, m2 => m.stripe = m2.stripe
  | 11, m, m2 => m.code = m2.code
  | _, m, m2 => m.blocks = m2.blocks
def setF : Nat → Msg → Msg → Msg
  | 0, m, m2 => { m with view := m2.view }
  | 1, m, m2 => { m with normal := m2.normal }
  | 2, m, m2 => { m with op := m2.op }
  | 3, m, m2 => { m with commit := m2.commit }
  | 4, m, m2 => { m with log := m2.log }
  | 5, m, m2 => { m with client := m2.client }
  | 6, m, m2 => { m with seq := m2.seq }
  | 7, m, m2 => { m with body := m2.body }
  | 8, m, m2 => { m with key := m2.key }
  | 9, m, m2 => { m with shard := m2.shard }
  | 10, m, m2 => { m with stripe := m2.stripe }
  | 11, m, m2 => { m with code := m2.code }
  | _, m, m2 => { m with blocks := m2.blocks }
theorem Msg.ext13 {m m2 : Msg} (h : m.ty = m2.ty) (hs : ∀ i, i < 13 → sameF i m m2) : m = m2 := by
  have h0 : m.view = m2.view := hs 0 (by omega)
  have h1 : m.normal = m2.normal := hs 1 (by omega)
  have h2 : m.op = m2.op := hs 2 (by omega)
  have h3 : m.commit = m2.commit := hs 3 (by omega)
  have h4 : m.log = m2.log := hs 4 (by omega)
  have h5 : m.client = m2.client := hs 5 (by omega)
  have h6 : m.seq = m2.seq := hs 6 (by omega)
  have h7 : m.body = m2.body := hs 7 (by omega)
  have h8 : m.key = m2.key := hs 8 (by omega)
  have h9 : m.shard = m2.shard := hs 9 (by omega)
  have h10 : m.stripe = m2.stripe := hs 10 (by omega)
  have h11 : m.code = m2.code := hs 11 (by omega)
  have h12 : m.blocks = m2.blocks := hs 12 (by omega)
  cases m; cases m2; simp only at *; simp only [h, h0, h1, h2, h3, h4, h5, h6, h7, h8, h9, h10, h11, h12]
theorem sameF_refl {k : Nat} (hk : k < 13) (m : Msg) : sameF k m m := by
  have hd : k = 0 ∨ k = 1 ∨ k = 2 ∨ k = 3 ∨ k = 4 ∨ k = 5 ∨ k = 6 ∨ k = 7 ∨ k = 8 ∨ k = 9 ∨ k = 10 ∨ k = 11 ∨ k = 12 := by omega
  rcases hd with rfl | rfl | rfl | rfl | rfl | rfl | rfl | rfl | rfl | rfl | rfl | rfl | rfl <;> rfl
theorem sameF_symm {k : Nat} (hk : k < 13) {m m2 : Msg} (h : sameF k m m2) : sameF k m2 m := by
  have hd : k = 0 ∨ k = 1 ∨ k = 2 ∨ k = 3 ∨ k = 4 ∨ k = 5 ∨ k = 6 ∨ k = 7 ∨ k = 8 ∨ k = 9 ∨ k = 10 ∨ k = 11 ∨ k = 12 := by omega
  rcases hd with rfl | rfl | rfl | rfl | rfl | rfl | rfl | rfl | rfl | rfl | rfl | rfl | rfl <;> exact Eq.symm h
theorem sameF_trans {k : Nat} (hk : k < 13) {m m2 m3 : Msg} (h : sameF k m m2) (h2 : sameF k m2 m3) : sameF k m m3 := by
  have hd : k = 0 ∨ k = 1 ∨ k = 2 ∨ k = 3 ∨ k = 4 ∨ k = 5 ∨ k = 6 ∨ k = 7 ∨ k = 8 ∨ k = 9 ∨ k = 10 ∨ k = 11 ∨ k = 12 := by omega
  rcases hd with rfl | rfl | rfl | rfl | rfl | rfl | rfl | rfl | rfl | rfl | rfl | rfl | rfl <;> exact Eq.trans h h2
theorem encF_same {k : Nat} (hk : k < 13) {m m2 : Msg} (h : sameF k m m2) : encF k m = encF k m2 := by
  have hd : k = 0 ∨ k = 1 ∨ k = 2 ∨ k = 3 ∨ k = 4 ∨ k = 5 ∨ k = 6 ∨ k = 7 ∨ k = 8 ∨ k = 9 ∨ k = 10 ∨ k = 11 ∨ k = 12 := by omega
  rcases hd with rfl | rfl | rfl | rfl | rfl | rfl | rfl | rfl | rfl | rfl | rfl | rfl | rfl <;> simp only [sameF] at h <;> simp only [encF, h]
theorem goodF_same {k : Nat} (hk : k < 13) {m m2 : Msg} (h : sameF k m m2) (hg : goodF k m) : goodF k m2 := by
  have hd : k = 0 ∨ k = 1 ∨ k = 2 ∨ k = 3 ∨ k = 4 ∨ k = 5 ∨ k = 6 ∨ k = 7 ∨ k = 8 ∨ k = 9 ∨ k = 10 ∨ k = 11 ∨ k = 12 := by omega
  rcases hd with rfl | rfl | rfl | rfl | rfl | rfl | rfl | rfl | rfl | rfl | rfl | rfl | rfl <;> simp only [sameF] at h <;> simpa only [goodF, h] using hg
theorem setF_same {k : Nat} (hk : k < 13) (m m2 : Msg) : sameF k (setF k m m2) m2 := by
  have hd : k = 0 ∨ k = 1 ∨ k = 2 ∨ k = 3 ∨ k = 4 ∨ k = 5 ∨ k = 6 ∨ k = 7 ∨ k = 8 ∨ k = 9 ∨ k = 10 ∨ k = 11 ∨ k = 12 := by omega
  rcases hd with rfl | rfl | rfl | rfl | rfl | rfl | rfl | rfl | rfl | rfl | rfl | rfl | rfl <;> rfl
theorem setF_else {k i : Nat} (hk : k < 13) (hi : i < 13) (hki : i ≠ k) (m m2 : Msg) : sameF i (setF k m m2) m := by
  have hd : k = 0 ∨ k = 1 ∨ k = 2 ∨ k = 3 ∨ k = 4 ∨ k = 5 ∨ k = 6 ∨ k = 7 ∨ k = 8 ∨ k = 9 ∨ k = 10 ∨ k = 11 ∨ k = 12 := by omega
  have he : i = 0 ∨ i = 1 ∨ i = 2 ∨ i = 3 ∨ i = 4 ∨ i = 5 ∨ i = 6 ∨ i = 7 ∨ i = 8 ∨ i = 9 ∨ i = 10 ∨ i = 11 ∨ i = 12 := by omega
  rcases hd with rfl | rfl | rfl | rfl | rfl | rfl | rfl | rfl | rfl | rfl | rfl | rfl | rfl <;> rcases he with rfl | rfl | rfl | rfl | rfl | rfl | rfl | rfl | rfl | rfl | rfl | rfl | rfl <;> first | rfl | exact absurd rfl hki
theorem setF_ty {k : Nat} (hk : k < 13) (m m2 : Msg) : (setF k m m2).ty = m.ty := by
  have hd : k = 0 ∨ k = 1 ∨ k = 2 ∨ k = 3 ∨ k = 4 ∨ k = 5 ∨ k = 6 ∨ k = 7 ∨ k = 8 ∨ k = 9 ∨ k = 10 ∨ k = 11 ∨ k = 12 := by omega
  rcases hd with rfl | rfl | rfl | rfl | rfl | rfl | rfl | rfl | rfl | rfl | rfl | rfl | rfl <;> rfl
theorem zero_good {k : Nat} (hk : k < 13) (t : Int) : goodF k (zM t) := by
  have hd : k = 0 ∨ k = 1 ∨ k = 2 ∨ k = 3 ∨ k = 4 ∨ k = 5 ∨ k = 6 ∨ k = 7 ∨ k = 8 ∨ k = 9 ∨ k = 10 ∨ k = 11 ∨ k = 12 := by omega
  rcases hd with rfl | rfl | rfl | rfl | rfl | rfl | rfl | rfl | rfl | rfl | rfl | rfl | rfl <;> simp [goodF, zM, goodL, goodT, goodBs, Byt]
theorem field_bytes {k : Nat} (hk : k < 13) {m : Msg} (h : goodF k m) : Byt (encF k m) := by
  have hd : k = 0 ∨ k = 1 ∨ k = 2 ∨ k = 3 ∨ k = 4 ∨ k = 5 ∨ k = 6 ∨ k = 7 ∨ k = 8 ∨ k = 9 ∨ k = 10 ∨ k = 11 ∨ k = 12 := by omega
  rcases hd with rfl | rfl | rfl | rfl | rfl | rfl | rfl | rfl | rfl | rfl | rfl | rfl | rfl
  · exact (num_law 8).bytes _ h
  · exact (num_law 8).bytes _ h
  · exact (count_law 1 64 1 (by decide)).bytes _ h
  · exact (count_law 1 64 1 (by decide)).bytes _ h
  · exact log_law.bytes _ h
  · exact (num_law 8).bytes _ h
  · exact (num_law 8).bytes _ h
  · exact text_law.bytes _ h
  · exact (num_law 8).bytes _ h
  · exact (num_law 1).bytes _ h
  · exact (num_law 4).bytes _ h
  · exact (num_law 2).bytes _ h
  · exact blocks_law.bytes _ h
theorem field_lay {k : Nat} (hk : k < 13) (l : List Int) (m : Msg) (h : goodF k m) : fieldS k (.W l) m = .ok (m, .W (l ++ encF k m)) := by
  have hd : k = 0 ∨ k = 1 ∨ k = 2 ∨ k = 3 ∨ k = 4 ∨ k = 5 ∨ k = 6 ∨ k = 7 ∨ k = 8 ∨ k = 9 ∨ k = 10 ∨ k = 11 ∨ k = 12 := by omega
  rcases hd with rfl | rfl | rfl | rfl | rfl | rfl | rfl | rfl | rfl | rfl | rfl | rfl | rfl
  · have h1 : numS (.W l) m.view 8 = _ := (num_law 8).lay l _ h
    simp only [fieldS, h1, thenS, encF]
  · have h1 : numS (.W l) m.normal 8 = _ := (num_law 8).lay l _ h
    simp only [fieldS, h1, thenS, encF]
  · have h1 : countS (.W l) m.op 1 64 1 = _ := (count_law 1 64 1 (by decide)).lay l _ h
    simp only [fieldS, h1, thenS, encF]
  · have h1 : countS (.W l) m.commit 1 64 1 = _ := (count_law 1 64 1 (by decide)).lay l _ h
    simp only [fieldS, h1, thenS, encF]
  · have h1 : logS (.W l) m.log = _ := log_law.lay l _ h
    simp only [fieldS, h1, thenS, encF]
  · have h1 : numS (.W l) m.client 8 = _ := (num_law 8).lay l _ h
    simp only [fieldS, h1, thenS, encF]
  · have h1 : numS (.W l) m.seq 8 = _ := (num_law 8).lay l _ h
    simp only [fieldS, h1, thenS, encF]
  · have h1 : textS (.W l) m.body = _ := text_law.lay l _ h
    simp only [fieldS, h1, thenS, encF]
  · have h1 : numS (.W l) m.key 8 = _ := (num_law 8).lay l _ h
    simp only [fieldS, h1, thenS, encF]
  · have h1 : numS (.W l) m.shard 1 = _ := (num_law 1).lay l _ h
    simp only [fieldS, h1, thenS, encF]
  · have h1 : numS (.W l) m.stripe 4 = _ := (num_law 4).lay l _ h
    simp only [fieldS, h1, thenS, encF]
  · have h1 : numS (.W l) m.code 2 = _ := (num_law 2).lay l _ h
    simp only [fieldS, h1, thenS, encF]
  · have h1 : blocksS (.W l) m.blocks = _ := blocks_law.lay l _ h
    simp only [fieldS, h1, thenS, encF]
theorem field_read {k : Nat} (hk : k < 13) {l : List Int} {m m2 : Msg} {S : St} (hb : Byt l) (h : fieldS k (.R l) m = .ok (m2, S)) : ∃ rest, S = .R rest ∧ goodF k m2 ∧ l = encF k m2 ++ rest ∧ m2 = setF k m m2 := by
  have hd : k = 0 ∨ k = 1 ∨ k = 2 ∨ k = 3 ∨ k = 4 ∨ k = 5 ∨ k = 6 ∨ k = 7 ∨ k = 8 ∨ k = 9 ∨ k = 10 ∨ k = 11 ∨ k = 12 := by omega
  rcases hd with rfl | rfl | rfl | rfl | rfl | rfl | rfl | rfl | rfl | rfl | rfl | rfl | rfl
  · obtain ⟨r, h1, rfl⟩ := thenS_ok h
    obtain ⟨rest, e, g, el⟩ := (num_law 8).read _ _ _ _ hb h1
    exact ⟨rest, e, g, el, rfl⟩
  · obtain ⟨r, h1, rfl⟩ := thenS_ok h
    obtain ⟨rest, e, g, el⟩ := (num_law 8).read _ _ _ _ hb h1
    exact ⟨rest, e, g, el, rfl⟩
  · obtain ⟨r, h1, rfl⟩ := thenS_ok h
    obtain ⟨rest, e, g, el⟩ := (count_law 1 64 1 (by decide)).read _ _ _ _ hb h1
    exact ⟨rest, e, g, el, rfl⟩
  · obtain ⟨r, h1, rfl⟩ := thenS_ok h
    obtain ⟨rest, e, g, el⟩ := (count_law 1 64 1 (by decide)).read _ _ _ _ hb h1
    exact ⟨rest, e, g, el, rfl⟩
  · obtain ⟨r, h1, rfl⟩ := thenS_ok h
    obtain ⟨rest, e, g, el⟩ := log_law.read _ _ _ _ hb h1
    exact ⟨rest, e, g, el, rfl⟩
  · obtain ⟨r, h1, rfl⟩ := thenS_ok h
    obtain ⟨rest, e, g, el⟩ := (num_law 8).read _ _ _ _ hb h1
    exact ⟨rest, e, g, el, rfl⟩
  · obtain ⟨r, h1, rfl⟩ := thenS_ok h
    obtain ⟨rest, e, g, el⟩ := (num_law 8).read _ _ _ _ hb h1
    exact ⟨rest, e, g, el, rfl⟩
  · obtain ⟨r, h1, rfl⟩ := thenS_ok h
    obtain ⟨rest, e, g, el⟩ := text_law.read _ _ _ _ hb h1
    exact ⟨rest, e, g, el, rfl⟩
  · obtain ⟨r, h1, rfl⟩ := thenS_ok h
    obtain ⟨rest, e, g, el⟩ := (num_law 8).read _ _ _ _ hb h1
    exact ⟨rest, e, g, el, rfl⟩
  · obtain ⟨r, h1, rfl⟩ := thenS_ok h
    obtain ⟨rest, e, g, el⟩ := (num_law 1).read _ _ _ _ hb h1
    exact ⟨rest, e, g, el, rfl⟩
  · obtain ⟨r, h1, rfl⟩ := thenS_ok h
    obtain ⟨rest, e, g, el⟩ := (num_law 4).read _ _ _ _ hb h1
    exact ⟨rest, e, g, el, rfl⟩
  · obtain ⟨r, h1, rfl⟩ := thenS_ok h
    obtain ⟨rest, e, g, el⟩ := (num_law 2).read _ _ _ _ hb h1
    exact ⟨rest, e, g, el, rfl⟩
  · obtain ⟨r, h1, rfl⟩ := thenS_ok h
    obtain ⟨rest, e, g, el⟩ := blocks_law.read _ _ _ _ hb h1
    exact ⟨rest, e, g, el, rfl⟩
theorem field_back {k : Nat} (hk : k < 13) (rest : List Int) (m m0 : Msg) (h : goodF k m) : fieldS k (.R (encF k m ++ rest)) m0 = .ok (setF k m0 m, .R rest) := by
  have hd : k = 0 ∨ k = 1 ∨ k = 2 ∨ k = 3 ∨ k = 4 ∨ k = 5 ∨ k = 6 ∨ k = 7 ∨ k = 8 ∨ k = 9 ∨ k = 10 ∨ k = 11 ∨ k = 12 := by omega
  rcases hd with rfl | rfl | rfl | rfl | rfl | rfl | rfl | rfl | rfl | rfl | rfl | rfl | rfl
  · have h1 : numS (.R (be m.view 8 ++ rest)) m0.view 8 = _ := (num_law 8).back m.view m0.view rest h
    simp only [fieldS, encF, h1, thenS, setF]
  · have h1 : numS (.R (be m.normal 8 ++ rest)) m0.normal 8 = _ := (num_law 8).back m.normal m0.normal rest h
    simp only [fieldS, encF, h1, thenS, setF]
  · have h1 : countS (.R (be m.op 1 ++ rest)) m0.op 1 64 1 = _ := (count_law 1 64 1 (by decide)).back m.op m0.op rest h
    simp only [fieldS, encF, h1, thenS, setF]
  · have h1 : countS (.R (be m.commit 1 ++ rest)) m0.commit 1 64 1 = _ := (count_law 1 64 1 (by decide)).back m.commit m0.commit rest h
    simp only [fieldS, encF, h1, thenS, setF]
  · have h1 : logS (.R (encL m.log ++ rest)) m0.log = _ := log_law.back m.log m0.log rest h
    simp only [fieldS, encF, h1, thenS, setF]
  · have h1 : numS (.R (be m.client 8 ++ rest)) m0.client 8 = _ := (num_law 8).back m.client m0.client rest h
    simp only [fieldS, encF, h1, thenS, setF]
  · have h1 : numS (.R (be m.seq 8 ++ rest)) m0.seq 8 = _ := (num_law 8).back m.seq m0.seq rest h
    simp only [fieldS, encF, h1, thenS, setF]
  · have h1 : textS (.R (encT m.body ++ rest)) m0.body = _ := text_law.back m.body m0.body rest h
    simp only [fieldS, encF, h1, thenS, setF]
  · have h1 : numS (.R (be m.key 8 ++ rest)) m0.key 8 = _ := (num_law 8).back m.key m0.key rest h
    simp only [fieldS, encF, h1, thenS, setF]
  · have h1 : numS (.R (be m.shard 1 ++ rest)) m0.shard 1 = _ := (num_law 1).back m.shard m0.shard rest h
    simp only [fieldS, encF, h1, thenS, setF]
  · have h1 : numS (.R (be m.stripe 4 ++ rest)) m0.stripe 4 = _ := (num_law 4).back m.stripe m0.stripe rest h
    simp only [fieldS, encF, h1, thenS, setF]
  · have h1 : numS (.R (be m.code 2 ++ rest)) m0.code 2 = _ := (num_law 2).back m.code m0.code rest h
    simp only [fieldS, encF, h1, thenS, setF]
  · have h1 : blocksS (.R (encBs m.blocks ++ rest)) m0.blocks = _ := blocks_law.back m.blocks m0.blocks rest h
    simp only [fieldS, encF, h1, thenS, setF]
theorem field_short {k : Nat} (hk : k < 13) (l rest : List Int) (m m0 : Msg) (h : goodF k m) (he : encF k m = l ++ rest) (hr : rest ≠ []) : fieldS k (.R l) m0 = .error 201 := by
  have hd : k = 0 ∨ k = 1 ∨ k = 2 ∨ k = 3 ∨ k = 4 ∨ k = 5 ∨ k = 6 ∨ k = 7 ∨ k = 8 ∨ k = 9 ∨ k = 10 ∨ k = 11 ∨ k = 12 := by omega
  rcases hd with rfl | rfl | rfl | rfl | rfl | rfl | rfl | rfl | rfl | rfl | rfl | rfl | rfl
  · have h1 : numS (.R l) m0.view 8 = _ := (num_law 8).short m.view m0.view l rest h he hr
    simp only [fieldS, h1, thenS]
  · have h1 : numS (.R l) m0.normal 8 = _ := (num_law 8).short m.normal m0.normal l rest h he hr
    simp only [fieldS, h1, thenS]
  · have h1 : countS (.R l) m0.op 1 64 1 = _ := (count_law 1 64 1 (by decide)).short m.op m0.op l rest h he hr
    simp only [fieldS, h1, thenS]
  · have h1 : countS (.R l) m0.commit 1 64 1 = _ := (count_law 1 64 1 (by decide)).short m.commit m0.commit l rest h he hr
    simp only [fieldS, h1, thenS]
  · have h1 : logS (.R l) m0.log = _ := log_law.short m.log m0.log l rest h he hr
    simp only [fieldS, h1, thenS]
  · have h1 : numS (.R l) m0.client 8 = _ := (num_law 8).short m.client m0.client l rest h he hr
    simp only [fieldS, h1, thenS]
  · have h1 : numS (.R l) m0.seq 8 = _ := (num_law 8).short m.seq m0.seq l rest h he hr
    simp only [fieldS, h1, thenS]
  · have h1 : textS (.R l) m0.body = _ := text_law.short m.body m0.body l rest h he hr
    simp only [fieldS, h1, thenS]
  · have h1 : numS (.R l) m0.key 8 = _ := (num_law 8).short m.key m0.key l rest h he hr
    simp only [fieldS, h1, thenS]
  · have h1 : numS (.R l) m0.shard 1 = _ := (num_law 1).short m.shard m0.shard l rest h he hr
    simp only [fieldS, h1, thenS]
  · have h1 : numS (.R l) m0.stripe 4 = _ := (num_law 4).short m.stripe m0.stripe l rest h he hr
    simp only [fieldS, h1, thenS]
  · have h1 : numS (.R l) m0.code 2 = _ := (num_law 2).short m.code m0.code l rest h he hr
    simp only [fieldS, h1, thenS]
  · have h1 : blocksS (.R l) m0.blocks = _ := blocks_law.short m.blocks m0.blocks l rest h he hr
    simp only [fieldS, h1, thenS]
/-- The bytes of n fields from the k-th on. -/
def encG (h : Nat) : Nat → Nat → Msg → List Int
  | 0, _, _ => []
  | n + 1, k, m => (if h.testBit k then encF k m else []) ++ encG h n (k + 1) m
def goodG (h n k : Nat) (m : Msg) : Prop := ∀ i, k ≤ i → i < k + n → h.testBit i = true → goodF i m
theorem goS_lay (h : Nat) : ∀ (n k : Nat) (l : List Int) (m : Msg), n + k ≤ 13 → goodG h n k m → goS h n k (.W l) m = .ok (m, .W (l ++ encG h n k m))
  | 0, k, l, m, _, _ => by simp [goS, encG]
  | n + 1, k, l, m, hn, hg => by
    simp only [goS, encG]
    cases ht : h.testBit k with
    | false =>
      rw [if_neg (by simp), if_neg (by simp), List.nil_append]
      exact goS_lay h n (k + 1) l m (by omega) (fun i h1 h2 h3 => hg i (by omega) (by omega) h3)
    | true =>
      rw [if_pos rfl, if_pos rfl, field_lay (by omega) l m (hg k (Nat.le_refl _) (by omega) ht), ← List.append_assoc]
      exact goS_lay h n (k + 1) _ m (by omega) (fun i h1 h2 h3 => hg i (by omega) (by omega) h3)
theorem goS_back (h : Nat) : ∀ (n k : Nat) (rest : List Int) (m m0 : Msg), n + k ≤ 13 → goodG h n k m →
    ∃ m1, goS h n k (.R (encG h n k m ++ rest)) m0 = .ok (m1, .R rest) ∧ m1.ty = m0.ty ∧ ∀ i, i < 13 → (k ≤ i ∧ i < k + n ∧ h.testBit i = true → sameF i m1 m) ∧ (¬ (k ≤ i ∧ i < k + n ∧ h.testBit i = true) → sameF i m1 m0)
  | 0, k, rest, m, m0, _, _ => ⟨m0, by simp [goS, encG], rfl, fun i hi => ⟨fun h => by omega, fun _ => sameF_refl hi m0⟩⟩
  | n + 1, k, rest, m, m0, hn, hg => by
    simp only [goS, encG]
    cases ht : h.testBit k with
    | false =>
      rw [if_neg (by simp), if_neg (by simp), List.nil_append]
      obtain ⟨m1, h1, h2, h3⟩ := goS_back h n (k + 1) rest m m0 (by omega) (fun i h1 h2 h3 => hg i (by omega) (by omega) h3)
      refine ⟨m1, h1, h2, fun i hi => ⟨fun hq => (h3 i hi).1 ⟨?_, by omega, hq.2.2⟩, fun hq => (h3 i hi).2 (fun hq2 => hq ⟨by omega, by omega, hq2.2.2⟩)⟩⟩
      rcases Nat.lt_or_ge k i with h4 | h4
      · omega
      · have : i = k := by omega
        rw [this, ht] at hq
        cases hq.2.2
    | true =>
      rw [if_pos rfl, if_pos rfl, List.append_assoc, field_back (by omega) _ m m0 (hg k (Nat.le_refl _) (by omega) ht)]
      obtain ⟨m1, h1, h2, h3⟩ := goS_back h n (k + 1) rest m (setF k m0 m) (by omega) (fun i h1 h2 h3 => hg i (by omega) (by omega) h3)
      refine ⟨m1, h1, h2.trans (setF_ty (by omega) m0 m), fun i hi => ?_⟩
      by_cases hik : i = k
      · subst hik
        have h4 := (h3 i hi).2 (by omega)
        exact ⟨fun _ => sameF_trans hi h4 (setF_same hi m0 m), fun hq => absurd ⟨Nat.le_refl _, by omega, ht⟩ hq⟩
      · refine ⟨fun hq => (h3 i hi).1 ⟨by omega, by omega, hq.2.2⟩, fun hq => sameF_trans hi ((h3 i hi).2 (fun hq2 => hq ⟨by omega, by omega, hq2.2.2⟩)) (setF_else (by omega) hi hik m0 m)⟩
theorem goS_read (h : Nat) : ∀ (n k : Nat) (l : List Int) (m0 m1 : Msg) (S : St), n + k ≤ 13 → Byt l → goS h n k (.R l) m0 = .ok (m1, S) →
    ∃ rest, S = .R rest ∧ l = encG h n k m1 ++ rest ∧ goodG h n k m1 ∧ m1.ty = m0.ty ∧ ∀ i, i < 13 → ¬ (k ≤ i ∧ i < k + n ∧ h.testBit i = true) → sameF i m1 m0
  | 0, k, l, m0, m1, S, _, _, hs => by
    simp only [goS, Except.ok.injEq, Prod.mk.injEq] at hs
    obtain ⟨rfl, rfl⟩ := hs
    exact ⟨l, rfl, rfl, fun i h1 h2 _ => by omega, rfl, fun i hi _ => sameF_refl hi m0⟩
  | n + 1, k, l, m0, m1, S, hn, hb, hs => by
    simp only [goS] at hs
    cases ht : h.testBit k with
    | false =>
      rw [ht, if_neg (by simp)] at hs
      obtain ⟨rest, e, el, hg, hty, hsm⟩ := goS_read h n (k + 1) l m0 m1 S (by omega) hb hs
      refine ⟨rest, e, by simp only [encG, ht]; simpa using el, fun i h1 h2 h3 => ?_, hty, fun i hi hq => hsm i hi (fun hq2 => hq ⟨by omega, by omega, hq2.2.2⟩)⟩
      rcases Nat.lt_or_ge k i with h4 | h4
      · exact hg i (by omega) (by omega) h3
      · have : i = k := by omega
        rw [this, ht] at h3
        cases h3
    | true =>
      rw [ht, if_pos rfl] at hs
      split at hs
      · cases hs
      · rename_i m2 S2 h2
        obtain ⟨r1, rfl, g1, rfl, hset⟩ := field_read (by omega) hb h2
        obtain ⟨rest, e, el, hg, hty, hsm⟩ := goS_read h n (k + 1) r1 m2 m1 S (by omega) hb.right hs
        have hk1 : sameF k m1 m2 := hsm k (by omega) (by omega)
        refine ⟨rest, e, ?_, fun i h1 h2 h3 => ?_, ?_, fun i hi hq => ?_⟩
        · simp only [encG, ht, if_true]
          rw [List.append_assoc, ← el, encF_same (by omega) hk1]
        · by_cases hik : i = k
          · subst hik
            exact goodF_same (by omega) (sameF_symm (by omega) hk1) g1
          · exact hg i (by omega) (by omega) h3
        · rw [hty, hset]; exact setF_ty (by omega) m0 m2
        · by_cases hik : i = k
          · subst hik
            exact absurd ⟨Nat.le_refl _, by omega, ht⟩ hq
          · have h5 := hsm i hi (fun hq2 => hq ⟨by omega, by omega, hq2.2.2⟩)
            refine sameF_trans hi h5 ?_
            rw [hset]
            exact setF_else (by omega) hi hik m0 m2
theorem goS_short (h : Nat) : ∀ (n k : Nat) (l rest : List Int) (m m0 : Msg), n + k ≤ 13 → goodG h n k m → encG h n k m = l ++ rest → rest ≠ [] → goS h n k (.R l) m0 = .error 201
  | 0, k, l, rest, m, m0, _, _, he, hr => by
    have := congrArg List.length he
    simp only [encG, List.length_nil, List.length_append] at this
    exact absurd (List.eq_nil_of_length_eq_zero (by omega)) hr
  | n + 1, k, l, rest, m, m0, hn, hg, he, hr => by
    simp only [goS]
    simp only [encG] at he
    cases ht : h.testBit k with
    | false =>
      rw [ht, if_neg (by simp), List.nil_append] at he
      rw [if_neg (by simp)]
      exact goS_short h n (k + 1) l rest m m0 (by omega) (fun i h1 h2 h3 => hg i (by omega) (by omega) h3) he hr
    | true =>
      rw [ht, if_pos rfl] at he
      rw [if_pos rfl]
      have hgk := hg k (Nat.le_refl _) (by omega) ht
      rcases cut_split he hr with ⟨r1, hr1, h1⟩ | ⟨l1, rfl, h2⟩
      · rw [field_short (by omega) l r1 m m0 hgk h1 hr1]
      · rw [field_back (by omega) l1 m m0 hgk]
        exact goS_short h n (k + 1) l1 rest m _ (by omega) (fun i h1 h2 h3 => hg i (by omega) (by omega) h3) h2 hr

/-- A message's bytes. -/
def enc (m : Msg) : List Int := m.ty :: encG (hasB m.ty) 13 0 m
theorem good_fields {m : Msg} (h : GoodM m) (r : RgM m) : ∀ i, i < 13 → goodF i m := by
  intro k hk
  have hd : k = 0 ∨ k = 1 ∨ k = 2 ∨ k = 3 ∨ k = 4 ∨ k = 5 ∨ k = 6 ∨ k = 7 ∨ k = 8 ∨ k = 9 ∨ k = 10 ∨ k = 11 ∨ k = 12 := by omega
  rcases hd with rfl | rfl | rfl | rfl | rfl | rfl | rfl | rfl | rfl | rfl | rfl | rfl | rfl
  · exact r.view
  · exact r.normal
  · exact h.op
  · exact h.commit
  · exact ⟨h.log.1, fun x hx => by
      obtain ⟨a1, a2, a3, a4, a5⟩ := r.log.2 x hx
      exact ⟨⟨a1, a2⟩, ⟨a3, a4⟩, h.log.2 x hx, a5⟩⟩
  · exact r.client
  · exact r.seq
  · exact ⟨h.body, r.body.2⟩
  · exact r.key
  · exact r.shard
  · exact r.stripe
  · exact ⟨h.code.1, by have := h.code.2; show m.code < 256 ^ 2; omega⟩
  · exact ⟨h.blocks.1, fun x hx => ⟨h.blocks.2 x hx, r.blocks.2 x hx⟩⟩
theorem not_set {m : Msg} (hb : badF (setL m) (hasB m.ty) = false) : ∀ i, i < 13 → (hasB m.ty).testBit i = false → sameF i m (zM m.ty) := by
  intro k hk ht
  unfold badF at hb
  rw [List.any_eq_false] at hb
  have h1 := hb k (by simp; omega)
  rw [ht] at h1
  simp only [Bool.not_false, Bool.and_true] at h1
  have hd : k = 0 ∨ k = 1 ∨ k = 2 ∨ k = 3 ∨ k = 4 ∨ k = 5 ∨ k = 6 ∨ k = 7 ∨ k = 8 ∨ k = 9 ∨ k = 10 ∨ k = 11 ∨ k = 12 := by omega
  rcases hd with rfl | rfl | rfl | rfl | rfl | rfl | rfl | rfl | rfl | rfl | rfl | rfl | rfl <;> simp [setL] at h1 <;> exact h1
theorem set_bad {m : Msg} (hs : ∀ i, i < 13 → (hasB m.ty).testBit i = false → sameF i m (zM m.ty)) : badF (setL m) (hasB m.ty) = false := by
  unfold badF
  rw [List.any_eq_false]
  intro k _
  by_cases hk : k < 13
  · cases ht : (hasB m.ty).testBit k with
    | true => simp
    | false =>
      have h1 := hs k hk ht
      simp only [Bool.not_false, Bool.and_true]
      clear ht hs
      have hd : k = 0 ∨ k = 1 ∨ k = 2 ∨ k = 3 ∨ k = 4 ∨ k = 5 ∨ k = 6 ∨ k = 7 ∨ k = 8 ∨ k = 9 ∨ k = 10 ∨ k = 11 ∨ k = 12 := by omega
      rcases hd with rfl | rfl | rfl | rfl | rfl | rfl | rfl | rfl | rfl | rfl | rfl | rfl | rfl <;> simp only [sameF, zM] at h1 <;> simp [setL, h1]
  · have : (setL m).getD k false = false := by
      rw [List.getD_eq_getElem?_getD, List.getElem?_eq_none (by simp [setL]; omega)]
      rfl
    rw [this]
    simp
theorem pack_all {m : Msg} (h : GoodM m) (r : RgM m) : allS (.W [m.ty]) m = .ok (m, .W (enc m)) :=
  goS_lay _ 13 0 [m.ty] m (by omega) (fun i _ hi _ => good_fields h r i (by omega))
theorem enc_bytes {m : Msg} (h : GoodM m) (r : RgM m) : Byt (enc m) := by
  have key : ∀ (n k : Nat), n + k ≤ 13 → Byt (encG (hasB m.ty) n k m) := by
    intro n
    induction n with
    | zero => intro k _ x hx; cases hx
    | succ n ih =>
      intro k hk x hx
      simp only [encG] at hx
      rcases List.mem_append.1 hx with hx | hx
      · split at hx
        · exact field_bytes (by omega) (good_fields h r k (by omega)) x hx
        · cases hx
      · exact ih (k + 1) (by omega) x hx
  intro x hx
  rcases List.mem_cons.1 hx with rfl | hx
  · have := r.ty; omega
  · exact key 13 0 (by omega) x hx
theorem num1 (t : Int) (l : List Int) : numS (.R (t :: l)) 0 1 = .ok (t, .R l) := by
  simp [numS, step, val]
theorem parse_back {m : Msg} (h : GoodM m) (r : RgM m) (rest : List Int) : parseS (enc m ++ rest) = if 0 < rest.length then .error 6 else .ok m := by
  obtain ⟨m1, h1, h2, h3⟩ := goS_back (hasB m.ty) 13 0 rest m (zM m.ty) (by omega) (fun i _ hi _ => good_fields h r i (by omega))
  have e : m1 = m := by
    refine Msg.ext13 (h2.trans rfl) (fun i hi => ?_)
    cases ht : (hasB m.ty).testBit i with
    | true => exact (h3 i hi).1 ⟨Nat.zero_le _, by omega, ht⟩
    | false => exact sameF_trans hi ((h3 i hi).2 (by rw [ht]; simp)) (sameF_symm hi (not_set h.set i hi ht))
  rw [e] at h1
  have h4 : allS (.R (encG (hasB m.ty) 13 0 m ++ rest)) (zM m.ty) = .ok (m, .R rest) := h1
  unfold parseS enc
  rw [List.cons_append, num1]
  simp only [h4, leftS]
  rw [if_neg h.has]
  rfl
theorem parse_short {m : Msg} (h : GoodM m) (r : RgM m) (l rest : List Int) (he : enc m = l ++ rest) (hr : rest ≠ []) : parseS l = .error 201 := by
  unfold parseS
  cases l with
  | nil => rfl
  | cons t l =>
    simp only [enc, List.cons_append, List.cons.injEq] at he
    obtain ⟨rfl, he⟩ := he
    have h1 : allS (.R l) (zM m.ty) = .error 201 := goS_short (hasB m.ty) 13 0 l rest m (zM m.ty) (by omega) (fun i _ hi _ => good_fields h r i (by omega)) he hr
    rw [num1]
    simp only [h1]
    rw [if_neg h.has]
theorem parse_read {l : List Int} {m : Msg} (hb : Byt l) (h : parseS l = .ok m) : GoodM m ∧ RgM m ∧ l = enc m := by
  unfold parseS at h
  cases l with
  | nil => cases h
  | cons t l =>
    rw [num1] at h
    simp only at h
    split at h
    · cases h
    · rename_i hne
      split at h
      · cases h
      · rename_i m1 S2 h1
        obtain ⟨rest, rfl, el, hg, hty, hsm⟩ := goS_read (hasB t) 13 0 l (zM t) m1 S2 (by omega) (hb.right (a := [t])) h1
        by_cases hlen : 0 < leftS (.R rest)
        · rw [if_pos hlen] at h
          cases h
        · rw [if_neg hlen] at h
          simp only [Except.ok.injEq] at h
          subst h
          have hr0 : rest = [] := List.eq_nil_of_length_eq_zero (Nat.eq_zero_of_not_pos hlen)
          subst hr0
          rw [List.append_nil] at el
          have ht : m1.ty = t := hty
          have hz : ∀ i, i < 13 → (hasB t).testBit i = false → sameF i m1 (zM t) := fun i hi h2 => hsm i hi (by rw [h2]; simp)
          have hgood : ∀ i, i < 13 → goodF i m1 := fun i hi => by
            cases h2 : (hasB t).testBit i with
            | true => exact hg i (Nat.zero_le _) (by omega) h2
            | false => exact goodF_same hi (sameF_symm hi (hz i hi h2)) (zero_good hi t)
          have hset : badF (setL m1) (hasB m1.ty) = false := set_bad (by rw [ht]; exact hz)
          have g0 : 0 ≤ m1.view ∧ m1.view < 256 ^ 8 := hgood 0 (by omega)
          have g1 : 0 ≤ m1.normal ∧ m1.normal < 256 ^ 8 := hgood 1 (by omega)
          have g2 : 0 ≤ m1.op ∧ m1.op ≤ 64 := hgood 2 (by omega)
          have g3 : 0 ≤ m1.commit ∧ m1.commit ≤ 64 := hgood 3 (by omega)
          have g4 : goodL m1.log := hgood 4 (by omega)
          have g5 : 0 ≤ m1.client ∧ m1.client < 256 ^ 8 := hgood 5 (by omega)
          have g6 : 0 ≤ m1.seq ∧ m1.seq < 256 ^ 8 := hgood 6 (by omega)
          have g7 : goodT m1.body := hgood 7 (by omega)
          have g8 : 0 ≤ m1.key ∧ m1.key < 256 ^ 8 := hgood 8 (by omega)
          have g9 : 0 ≤ m1.shard ∧ m1.shard < 256 ^ 1 := hgood 9 (by omega)
          have g10 : 0 ≤ m1.stripe ∧ m1.stripe < 256 ^ 4 := hgood 10 (by omega)
          have g11 : 0 ≤ m1.code ∧ m1.code < 256 ^ 2 := hgood 11 (by omega)
          have g12 : goodBs m1.blocks := hgood 12 (by omega)
          have htb := hb t List.mem_cons_self
          refine ⟨⟨by rw [ht]; exact hne, hset, g2, g3, ⟨g11.1, by omega⟩, ⟨g4.1, fun x hx => (g4.2 x hx).2.2.1⟩, g7.1, ⟨g12.1, fun x hx => (g12.2 x hx).1⟩⟩,
            ⟨by omega, g0, g1, g5, g6, g8, g9, g10, ⟨by have := g4.1; omega, fun x hx => ?_⟩, ⟨by have := g7.1; omega, g7.2⟩, ⟨by have := g12.1; omega, fun x hx => (g12.2 x hx).2⟩⟩, by rw [enc, ht, ← el]⟩
          obtain ⟨a1, a2, a3⟩ := g4.2 x hx
          exact ⟨a1.1, a1.2, a2.1, a2.2, a3.2⟩
end Go.Proofs.Ytmjbdeoomohanaa.Mine

/- wire: the document's lay. -/
set_option linter.unusedSimpArgs false
set_option linter.unusedVariables false
namespace Go.Proofs.Ytmjbdeoomohanaa.Mine
open Go.RowKit Go.Maps Go.Proofs.YtmjbdeoomohanaaW.PrintWords Go.Proofs.YtmjbdeoomohanaaW.PrintLast Go.Proofs.YtmjbdeoomohanaaW.PrintMore Go.Proofs.Ytmjbdeoomohanaa.PWirePacks Go.Proofs.Ytmjbdeoomohanaa.Turn

theorem be_cons (n : Int) (sz : Nat) : be n (sz + 1) = (n / 2 ^ (8 * sz) % 256) :: be n sz := by
  unfold be
  rw [List.range_succ_eq_map, List.map_cons, List.map_map]
  congr 1
  apply List.map_congr_left
  intro i hi
  have hi2 : i < sz := by simpa using hi
  simp only [Function.comp_apply, dig]
  rw [show sz + 1 - 1 - (i + 1) = sz - 1 - i by omega]
theorem lay_plain (n : Int) (h0 : 0 ≤ n) (h1 : n < 18446744073709551616) : ∀ (sz : Nat) (l : List Int), sz ≤ 8 → l.length + sz ≤ 140737488355328 → tabularyref18_lay.l0 (sz + 1) l n ((sz : Int) - 1) = some (l ++ be n sz)
  | 0, l, _, _ => by
    unfold tabularyref18_lay.l0
    rw [if_neg (by omega)]
    simp [be]
  | sz + 1, l, hs, hl => by
    have hw : wrap64 (8 * ((sz + 1 : Nat) - 1 : Int)) = 8 * (sz : Int) := by unfold wrap64; omega
    have hw2 : wrap64 (((sz + 1 : Nat) : Int) - 1 - 1) = (sz : Int) - 1 := by unfold wrap64; omega
    have hsh : (shr .u64 n (8 * (sz : Int))) % 256 = n / 2 ^ (8 * sz) % 256 := by
      unfold shr
      rw [show (8 * (sz : Int)).toNat = 8 * sz by omega, Nat.min_eq_left (show 8 * sz ≤ IntKind.u64.bits by show 8 * sz ≤ 64; omega)]
    unfold tabularyref18_lay.l0
    rw [if_pos (by omega), hw, if_pos (by omega), if_pos (by omega), hw2, hsh, lay_plain n h0 h1 sz _ (by omega) (by rw [List.length_append]; simp only [List.length_cons, List.length_nil]; omega), be_cons, List.append_assoc]
    rfl

/-- How what lays behind a row of one's own ends. -/
def LayE (w0 w : World) (v : Value) (r : List Int) (e : Ending) (w' : World) : Prop :=
  ∃ v', e = .returned v' ∧ Kd.R (Kd.int .u8) 5 w' w0.heap.size (fun k => some k = v.ownBlock ∨ w.heap.size ≤ k) v' r ∧ Below w0.heap.size w0 w' ∧ Turned (fun k => some k = v.ownBlock) w w'
theorem LayE.trans {w0 w w1 w' : World} {v v1 : Value} {r1 r : List Int} {e : Ending} (h1 : Kd.R (Kd.int .u8) 5 w1 w0.heap.size (fun k => some k = v.ownBlock ∨ w.heap.size ≤ k) v1 r1) (ht : Turned (fun k => some k = v.ownBlock) w w1) (h : LayE w0 w1 v1 r e w') : LayE w0 w v r e w' := by
  obtain ⟨v', he, hR, hb, hT⟩ := h
  exact ⟨v', he, Kd.R_mono hR (fun k hk => hk.elim (fun h => h1.1 k h.symm) (fun h => .inr (Nat.le_trans ht.size h))), hb, ht.then_ hT (fun k hk => h1.1 k hk.symm)⟩
theorem lay_any {w0 w : World} {v : Value} {l : List Int} (hB : Below w0.heap.size w0 w) (hR : Kd.R (Kd.int .u8) 5 w w0.heap.size (fun _ => True) v l) (n : Int) (h0 : 0 ≤ n) (h1 : n < 18446744073709551616) (sz : Nat) (hs : sz ≤ 8) (hl : l.length + sz ≤ 140737488355328) :
    Calls Try.prog 52 #[v, .int .u64 n, .int .i64 sz] w (LayE w0 w v (l ++ be n sz)) := by
  have hp : tabularyref18_lay.f (sz + 1) l n sz = some (l ++ be n sz) := by
    unfold tabularyref18_lay.f
    rw [show wrap64 ((sz : Int) - 1) = (sz : Int) - 1 by unfold wrap64; omega]
    exact lay_plain n h0 h1 sz l hs hl
  refine (tabularyref18_lay.calls (sz + 1) (fun k => some k = v.ownBlock) v l n sz _ w0 w hB (Kd.R_tight rfl hR) hp).mono ?_
  rintro e w' ⟨v', rfl, hR', hb', hk⟩
  exact ⟨v', rfl, hR', hb', hb'.os.trans hB.os.symm, hb'.tape.trans hB.tape.symm, hb'.output.trans hB.output.symm, hk.1, hk.2⟩
end Go.Proofs.Ytmjbdeoomohanaa.Mine
