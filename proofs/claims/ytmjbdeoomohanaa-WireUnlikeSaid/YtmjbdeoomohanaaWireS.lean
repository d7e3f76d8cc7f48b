/- wire: the plain law of a coder: what is laid is read, what is read was laid. -/
import Derived.Test.YtmjbdeoomohanaaWireN2
set_option linter.unusedSimpArgs false
set_option linter.unusedVariables false
namespace Go.Proofs.Ytmjbdeoomohanaa.Mine
open Go.RowKit Go.Maps Go.Proofs.YtmjbdeoomohanaaW.PrintWords Go.Proofs.YtmjbdeoomohanaaW.PrintLast Go.Proofs.YtmjbdeoomohanaaW.PrintMore Go.Proofs.Ytmjbdeoomohanaa.PWirePacks Go.Proofs.Ytmjbdeoomohanaa.Turn

def Byt (l : List Int) : Prop := ∀ x ∈ l, 0 ≤ x ∧ x < 256
theorem Byt.take {l : List Int} (h : Byt l) (n : Nat) : Byt (l.take n) := fun x hx => h x (List.mem_of_mem_take hx)
theorem Byt.drop {l : List Int} (h : Byt l) (n : Nat) : Byt (l.drop n) := fun x hx => h x (List.mem_of_mem_drop hx)
theorem Byt.left {a b : List Int} (h : Byt (a ++ b)) : Byt a := fun x hx => h x (List.mem_append_left _ hx)
theorem Byt.right {a b : List Int} (h : Byt (a ++ b)) : Byt b := fun x hx => h x (List.mem_append_right _ hx)

theorem be_snoc (n : Int) (sz : Nat) : be n (sz + 1) = be (n / 256) sz ++ [n % 256] := by
  unfold be
  rw [List.range_succ, List.map_append]
  congr 1
  · apply List.map_congr_left
    intro i hi
    have hi2 : i < sz := by simpa using hi
    unfold dig
    rw [show 8 * (sz + 1 - 1 - i) = 8 + 8 * (sz - 1 - i) by omega, Int.pow_add, Int.ediv_ediv_of_nonneg (by omega)]
    rfl
  · simp [dig]
theorem val_snoc (l : List Int) (x : Int) : val (l ++ [x]) = val l * 256 + x := by
  unfold val
  rw [List.foldl_append]
  rfl
theorem val_be : ∀ (sz : Nat) (n : Int), 0 ≤ n → n < 256 ^ sz → val (be n sz) = n
  | 0, n, h0, h1 => by
    have : n = 0 := by simp at h1; omega
    subst this
    rfl
  | sz + 1, n, h0, h1 => by
    rw [be_snoc, val_snoc, val_be sz (n / 256) (by omega) (by rw [Int.pow_succ] at h1; omega)]
    omega
theorem be_val : ∀ (sz : Nat) (r : List Int), r.length = sz → Byt r → be (val r) sz = r
  | 0, r, hl, _ => by
    rw [List.eq_nil_of_length_eq_zero hl]
    rfl
  | sz + 1, r, hl, hb => by
    obtain ⟨a, x, rfl⟩ : ∃ a x, r = a ++ [x] := ⟨r.take sz, r[sz]'(by omega), by rw [← List.take_succ_eq_append_getElem, List.take_of_length_le (by omega)]⟩
    have hx := hb x (by simp)
    rw [be_snoc, val_snoc, show (val a * 256 + x) / 256 = val a by omega, show (val a * 256 + x) % 256 = x by omega, be_val sz a (by simpa using hl) hb.left]

/-- What is laid is read, what is read was laid, what is cut short is refused. -/
structure Law {α : Type} (f : St → α → Except Int (α × St)) (good : α → Prop) (enc : α → List Int) : Prop where
  lay : ∀ l v, good v → f (.W l) v = .ok (v, .W (l ++ enc v))
  read : ∀ l v0 v S, Byt l → f (.R l) v0 = .ok (v, S) → ∃ rest, S = .R rest ∧ good v ∧ l = enc v ++ rest
  back : ∀ v v0 rest, good v → f (.R (enc v ++ rest)) v0 = .ok (v, .R rest)
  short : ∀ v v0 l rest, good v → enc v = l ++ rest → rest ≠ [] → f (.R l) v0 = .error 201
  bytes : ∀ v, good v → Byt (enc v)

theorem step_R {l : List Int} {bs : List Int} {n : Nat} (h : n ≤ l.length) : step (.R l) bs n = .ok (l.take n, .R (l.drop n)) := by
  rw [step, if_neg (by omega)]
theorem step_R_short {l : List Int} {bs : List Int} {n : Nat} (h : l.length < n) : step (.R l) bs n = .error 201 := by
  rw [step, if_pos h]
theorem step_back {a rest bs : List Int} : step (.R (a ++ rest)) bs a.length = .ok (a, .R rest) := by
  rw [step_R (by simp), List.take_left' rfl, List.drop_left' rfl]
theorem step_read {l bs r : List Int} {n : Nat} {S : St} (h : step (.R l) bs n = .ok (r, S)) : n ≤ l.length ∧ r = l.take n ∧ S = .R (l.drop n) := by
  by_cases hn : l.length < n
  · rw [step_R_short hn] at h
    cases h
  · rw [step_R (by omega)] at h
    simp only [Except.ok.injEq, Prod.mk.injEq] at h
    exact ⟨by omega, h.1.symm, h.2.symm⟩
theorem ne_nil_pos {α : Type} {l : List α} (h : l ≠ []) : 0 < l.length := List.length_pos_iff.2 h

theorem num_law (sz : Nat) : Law (fun S v => numS S v sz) (fun v => 0 ≤ v ∧ v < 256 ^ sz) (fun v => be v sz) where
  lay := fun l v h => by
    simp only [numS, step, val_be sz v h.1 h.2]
  read := fun l v0 v S hb h => by
    simp only [numS] at h
    split at h
    · cases h
    · rename_i r S1 h1
      obtain ⟨hn, rfl, rfl⟩ := step_read h1
      simp only [Except.ok.injEq, Prod.mk.injEq] at h
      obtain ⟨rfl, rfl⟩ := h
      have hl : (l.take sz).length = sz := by rw [List.length_take]; omega
      have hv := val_range (hb.take sz) sz (by omega)
      rw [List.take_of_length_le (by omega)] at hv
      refine ⟨_, rfl, hv, ?_⟩
      rw [be_val sz _ hl (hb.take sz), List.take_append_drop]
  back := fun v v0 rest h => by
    have := step_back (a := be v sz) (rest := rest) (bs := be v0 sz)
    rw [be_len] at this
    simp only [numS, this, val_be sz v h.1 h.2]
  short := fun v v0 l rest h he hr => by
    have h1 := congrArg List.length he
    rw [be_len, List.length_append] at h1
    have := ne_nil_pos hr
    simp only [numS, step_R_short (show l.length < sz by omega)]
  bytes := fun v _ => be_range v sz
theorem count_law (sz : Nat) (most bad : Int) (hm : most < 256 ^ sz) : Law (fun S v => countS S v sz most bad) (fun v => 0 ≤ v ∧ v ≤ most) (fun v => be v sz) where
  lay := fun l v h => by
    simp only [countS, step, val_be sz v h.1 (by omega)]
    rw [if_neg (by omega)]
  read := fun l v0 v S hb h => by
    simp only [countS] at h
    split at h
    · cases h
    · rename_i r S1 h1
      obtain ⟨hn, rfl, rfl⟩ := step_read h1
      split at h
      · cases h
      · simp only [Except.ok.injEq, Prod.mk.injEq] at h
        obtain ⟨rfl, rfl⟩ := h
        have hl : (l.take sz).length = sz := by rw [List.length_take]; omega
        have hv := val_range (hb.take sz) sz (by omega)
        rw [List.take_of_length_le (by omega)] at hv
        refine ⟨_, rfl, ⟨hv.1, by omega⟩, ?_⟩
        rw [be_val sz _ hl (hb.take sz), List.take_append_drop]
  back := fun v v0 rest h => by
    have := step_back (a := be v sz) (rest := rest) (bs := be v0 sz)
    rw [be_len] at this
    simp only [countS, this, val_be sz v h.1 (by omega)]
    rw [if_neg (by omega)]
  short := fun v v0 l rest h he hr => by
    have h1 := congrArg List.length he
    rw [be_len, List.length_append] at h1
    have := ne_nil_pos hr
    simp only [countS, step_R_short (show l.length < sz by omega)]
  bytes := fun v _ => be_range v sz

/-- A list cut short: in its first part, or behind it. -/
theorem cut_split {a b l rest : List Int} (h : a ++ b = l ++ rest) (hr : rest ≠ []) : (∃ r1, r1 ≠ [] ∧ a = l ++ r1) ∨ ∃ l', l = a ++ l' ∧ b = l' ++ rest := by
  rcases List.append_eq_append_iff.1 h with ⟨cs, h1, h2⟩ | ⟨bs, h1, h2⟩
  · exact .inr ⟨cs, h1, h2⟩
  · by_cases hb : bs = []
    · subst hb
      exact .inr ⟨[], by simpa using h1.symm, by simpa using h2.symm⟩
    · exact .inl ⟨bs, hb, h1⟩

def encT (bs : List Int) : List Int := be bs.length 2 ++ bs
def goodT (bs : List Int) : Prop := bs.length ≤ 2048 ∧ Byt bs
theorem text_law : Law textS goodT encT where
  lay := fun l v h => by
    have h1 := (count_law 2 2048 2 (by decide)).lay l v.length ⟨by omega, by have := h.1; omega⟩
    simp only [textS, h1, step, encT, List.append_assoc, Int.toNat_natCast]
  read := fun l v0 v S hb h => by
    simp only [textS] at h
    split at h
    · cases h
    · rename_i n S1 h1
      obtain ⟨r1, rfl, hn, rfl⟩ := (count_law 2 2048 2 (by decide)).read _ _ _ _ hb h1
      obtain ⟨h2, rfl, rfl⟩ := step_read h
      have hl : (r1.take n.toNat).length = n.toNat := by rw [List.length_take]; omega
      refine ⟨_, rfl, ⟨by omega, hb.right.take _⟩, ?_⟩
      rw [encT, hl, Int.toNat_of_nonneg hn.1, List.append_assoc, List.take_append_drop]
  back := fun v v0 rest h => by
    have h1 := (count_law 2 2048 2 (by decide)).back v.length v0.length (v ++ rest) ⟨by omega, by have := h.1; omega⟩
    simp only [textS, encT, List.append_assoc, h1, Int.toNat_natCast, step_back]
  short := fun v v0 l rest h he hr => by
    rcases cut_split (show be v.length 2 ++ v = l ++ rest from he) hr with ⟨r1, hr1, h1⟩ | ⟨l', rfl, h2⟩
    · have h1 := (count_law 2 2048 2 (by decide)).short v.length v0.length l r1 ⟨by omega, by have := h.1; omega⟩ h1 hr1
      simp only [textS, h1]
    · have h1 := (count_law 2 2048 2 (by decide)).back v.length v0.length l' ⟨by omega, by have := h.1; omega⟩
      have h3 := congrArg List.length h2
      rw [List.length_append] at h3
      have := ne_nil_pos hr
      simp only [textS, h1, Int.toNat_natCast, step_R_short (show l'.length < v.length by omega)]
  bytes := fun v h x hx => by
    rcases List.mem_append.1 hx with hx | hx
    · exact be_range _ _ x hx
    · exact h.2 x hx

def encE (x : S44) : List Int := be x.f0 8 ++ (be x.f1 8 ++ encT x.f2)
def goodE (x : S44) : Prop := (0 ≤ x.f0 ∧ x.f0 < 256 ^ 8) ∧ (0 ≤ x.f1 ∧ x.f1 < 256 ^ 8) ∧ goodT x.f2
theorem ent_law : Law entS goodE encE where
  lay := fun l v h => by
    have h1 := (num_law 8).lay l v.f0 h.1
    have h2 := (num_law 8).lay (l ++ be v.f0 8) v.f1 h.2.1
    have h3 := text_law.lay (l ++ be v.f0 8 ++ be v.f1 8) v.f2 h.2.2
    simp only [entS, h1, h2, h3]
    simp only [encE, List.append_assoc]
  read := fun l v0 v S hb h => by
    simp only [entS] at h
    split at h
    · cases h
    · rename_i a S1 h1
      obtain ⟨r1, rfl, g1, rfl⟩ := (num_law 8).read _ _ _ _ hb h1
      split at h
      · cases h
      · rename_i c S2 h2
        obtain ⟨r2, rfl, g2, rfl⟩ := (num_law 8).read _ _ _ _ hb.right h2
        split at h
        · cases h
        · rename_i q S3 h3
          obtain ⟨r3, rfl, g3, rfl⟩ := text_law.read _ _ _ _ hb.right.right h3
          simp only [Except.ok.injEq, Prod.mk.injEq] at h
          obtain ⟨rfl, rfl⟩ := h
          exact ⟨r3, rfl, ⟨g1, g2, g3⟩, by simp only [encE, List.append_assoc]⟩
  back := fun v v0 rest h => by
    have h1 := (num_law 8).back v.f0 v0.f0 (be v.f1 8 ++ (encT v.f2 ++ rest)) h.1
    have h2 := (num_law 8).back v.f1 v0.f1 (encT v.f2 ++ rest) h.2.1
    have h3 := text_law.back v.f2 v0.f2 rest h.2.2
    simp only [entS, encE, List.append_assoc, h1, h2, h3]
  short := fun v v0 l rest h he hr => by
    rcases cut_split (show be v.f0 8 ++ (be v.f1 8 ++ encT v.f2) = l ++ rest from he) hr with ⟨r1, hr1, h1⟩ | ⟨l1, rfl, h2⟩
    · have h1 := (num_law 8).short v.f0 v0.f0 l r1 h.1 h1 hr1
      simp only [entS, h1]
    · have k1 := (num_law 8).back v.f0 v0.f0 l1 h.1
      rcases cut_split h2 hr with ⟨r1, hr1, h1⟩ | ⟨l2, rfl, h3⟩
      · have h1 := (num_law 8).short v.f1 v0.f1 l1 r1 h.2.1 h1 hr1
        simp only [entS, k1, h1]
      · have k2 := (num_law 8).back v.f1 v0.f1 l2 h.2.1
        simp only [entS, k1, k2, text_law.short v.f2 v0.f2 l2 rest h.2.2 h3 hr]
  bytes := fun v h x hx => by
    rcases List.mem_append.1 hx with hx | hx
    · exact be_range _ _ x hx
    · rcases List.mem_append.1 hx with hx | hx
      · exact be_range _ _ x hx
      · exact text_law.bytes _ h.2.2 x hx

def block1 (S : St) (x : List Int) : Except Int (List Int × St) := step S x 128
def goodB (x : List Int) : Prop := x.length = 128 ∧ Byt x
theorem block_law : Law block1 goodB id where
  lay := fun l v h => rfl
  read := fun l v0 v S hb h => by
    obtain ⟨h2, rfl, rfl⟩ := step_read h
    exact ⟨_, rfl, ⟨by rw [List.length_take]; omega, hb.take _⟩, (List.take_append_drop _ _).symm⟩
  back := fun v v0 rest h => by
    have := step_back (a := v) (rest := rest) (bs := v0)
    rw [h.1] at this
    exact this
  short := fun v v0 l rest h he hr => by
    have h3 := congrArg List.length he
    rw [List.length_append] at h3
    have := ne_nil_pos hr
    have h4 := h.1
    simp only [id] at h3
    exact step_R_short (by omega)
  bytes := fun v h => h.2

/-- A row of such. -/
def rowG {α : Type} (f : St → α → Except Int (α × St)) (S : St) : List α → Except Int (List α × St)
  | [] => .ok ([], S)
  | x :: xs => match f S x with
    | .error e => .error e
    | .ok (r, S') => match rowG f S' xs with
      | .error e => .error e
      | .ok (rs, S'') => .ok (r :: rs, S'')
theorem rowL_G : ∀ (L : List S44) (S : St), rowL S L = rowG entS S L
  | [], S => rfl
  | x :: xs, S => by
    simp only [rowL, rowG]
    cases entS S x with
    | error e => rfl
    | ok y =>
      obtain ⟨r, S'⟩ := y
      simp only [rowL_G xs S']
      cases rowG entS S' xs with
      | error e => rfl
      | ok z => rfl
theorem rowS_G : ∀ (L : List (List Int)) (S : St), rowS S L = rowG block1 S L
  | [], S => rfl
  | x :: xs, S => by
    simp only [rowS, rowG]
    rw [show block1 S x = step S x 128 from rfl]
    cases step S x 128 with
    | error e => rfl
    | ok y =>
      obtain ⟨r, S'⟩ := y
      simp only [rowS_G xs S']
      cases rowG block1 S' xs with
      | error e => rfl
      | ok z => rfl
section
variable {α : Type} {f : St → α → Except Int (α × St)} {good : α → Prop} {enc : α → List Int} (H : Law f good enc)
include H
theorem row_lay : ∀ (L : List α) (l : List Int), (∀ x ∈ L, good x) → rowG f (.W l) L = .ok (L, .W (l ++ L.flatMap enc))
  | [], l, _ => by simp [rowG]
  | x :: xs, l, h => by
    simp only [rowG, H.lay l x (h x List.mem_cons_self), row_lay xs (l ++ enc x) (fun y hy => h y (List.mem_cons_of_mem _ hy)), List.flatMap_cons, List.append_assoc]
theorem row_read : ∀ (L0 L : List α) (l : List Int) (S : St), Byt l → rowG f (.R l) L0 = .ok (L, S) → ∃ rest, S = .R rest ∧ L.length = L0.length ∧ (∀ x ∈ L, good x) ∧ l = L.flatMap enc ++ rest
  | [], L, l, S, hb, h => by
    simp only [rowG, Except.ok.injEq, Prod.mk.injEq] at h
    obtain ⟨rfl, rfl⟩ := h
    exact ⟨l, rfl, rfl, by simp, by simp⟩
  | x :: xs, L, l, S, hb, h => by
    simp only [rowG] at h
    split at h
    · cases h
    · rename_i r S1 h1
      obtain ⟨r1, rfl, g1, rfl⟩ := H.read _ _ _ _ hb h1
      split at h
      · cases h
      · rename_i rs S2 h2
        obtain ⟨r2, rfl, hl, g2, rfl⟩ := row_read xs rs r1 S2 hb.right h2
        simp only [Except.ok.injEq, Prod.mk.injEq] at h
        obtain ⟨rfl, rfl⟩ := h
        refine ⟨r2, rfl, by simp [hl], fun y hy => ?_, by simp⟩
        rcases List.mem_cons.1 hy with rfl | hy
        · exact g1
        · exact g2 y hy
theorem row_back : ∀ (L L0 : List α) (rest : List Int), L0.length = L.length → (∀ x ∈ L, good x) → rowG f (.R (L.flatMap enc ++ rest)) L0 = .ok (L, .R rest)
  | [], L0, rest, hl, h => by
    rw [List.eq_nil_of_length_eq_zero hl]
    simp [rowG]
  | x :: xs, [], rest, hl, h => by simp at hl
  | x :: xs, y :: ys, rest, hl, h => by
    have hl2 : ys.length = xs.length := by simpa using hl
    simp only [rowG, List.flatMap_cons, List.append_assoc, H.back x y _ (h x List.mem_cons_self), row_back xs ys rest hl2 (fun y hy => h y (List.mem_cons_of_mem _ hy))]
theorem row_short : ∀ (L L0 : List α) (l rest : List Int), L0.length = L.length → (∀ x ∈ L, good x) → L.flatMap enc = l ++ rest → rest ≠ [] → rowG f (.R l) L0 = .error 201
  | [], L0, l, rest, hl, h, he, hr => by
    have : rest = [] := by
      have := congrArg List.length he
      simp only [List.flatMap_nil, List.length_nil, List.length_append] at this
      exact List.eq_nil_of_length_eq_zero (by omega)
    exact absurd this hr
  | x :: xs, [], l, rest, hl, h, he, hr => by simp at hl
  | x :: xs, y :: ys, l, rest, hl, h, he, hr => by
    have hl2 : ys.length = xs.length := by simpa using hl
    rw [List.flatMap_cons] at he
    rcases cut_split he hr with ⟨r1, hr1, h1⟩ | ⟨l1, rfl, h2⟩
    · simp only [rowG, H.short x y l r1 (h x List.mem_cons_self) h1 hr1]
    · simp only [rowG, H.back x y l1 (h x List.mem_cons_self), row_short xs ys l1 rest hl2 (fun y hy => h y (List.mem_cons_of_mem _ hy)) h2 hr]
theorem row_bytes (L : List α) (h : ∀ x ∈ L, good x) : Byt (L.flatMap enc) := fun y hy => by
  obtain ⟨x, hx, hxy⟩ := List.mem_flatMap.1 hy
  exact H.bytes x (h x hx) y hxy
end
theorem pad_self {α : Type} (l : List α) (z : α) : pad l l.length z = l := by
  unfold pad
  rw [List.take_of_length_le (Nat.le_refl _), List.drop_eq_nil_of_le (by simp), List.append_nil]

def encL (L : List S44) : List Int := be L.length 1 ++ L.flatMap encE
def goodL (L : List S44) : Prop := L.length ≤ 64 ∧ ∀ x ∈ L, goodE x
theorem log_law : Law logS goodL encL where
  lay := fun l v h => by
    have h1 := (count_law 1 64 2 (by decide)).lay l v.length ⟨by omega, by have := h.1; omega⟩
    simp only [logS, h1, Int.toNat_natCast, pad_self, rowL_G, row_lay ent_law v _ h.2, encL, List.append_assoc]
  read := fun l v0 v S hb h => by
    simp only [logS] at h
    split at h
    · cases h
    · rename_i n S1 h1
      obtain ⟨r1, rfl, hn, rfl⟩ := (count_law 1 64 2 (by decide)).read _ _ _ _ hb h1
      rw [rowL_G] at h
      obtain ⟨r2, rfl, hl, hg, rfl⟩ := row_read ent_law _ _ _ _ hb.right h
      rw [pad_length] at hl
      refine ⟨r2, rfl, ⟨by omega, hg⟩, ?_⟩
      rw [encL, hl, Int.toNat_of_nonneg hn.1, List.append_assoc]
  back := fun v v0 rest h => by
    have h1 := (count_law 1 64 2 (by decide)).back v.length v0.length (v.flatMap encE ++ rest) ⟨by omega, by have := h.1; omega⟩
    simp only [logS, encL, List.append_assoc, h1, Int.toNat_natCast, rowL_G, row_back ent_law v (pad v0 v.length z44) rest (pad_length _ _ _) h.2]
  short := fun v v0 l rest h he hr => by
    rcases cut_split (show be v.length 1 ++ v.flatMap encE = l ++ rest from he) hr with ⟨r1, hr1, h1⟩ | ⟨l', rfl, h2⟩
    · have h1 := (count_law 1 64 2 (by decide)).short v.length v0.length l r1 ⟨by omega, by have := h.1; omega⟩ h1 hr1
      simp only [logS, h1]
    · have h1 := (count_law 1 64 2 (by decide)).back v.length v0.length l' ⟨by omega, by have := h.1; omega⟩
      simp only [logS, h1, Int.toNat_natCast, rowL_G, row_short ent_law v (pad v0 v.length z44) l' rest (pad_length _ _ _) h.2 h2 hr]
  bytes := fun v h x hx => by
    rcases List.mem_append.1 hx with hx | hx
    · exact be_range _ _ x hx
    · exact row_bytes ent_law v h.2 x hx

def encBs (L : List (List Int)) : List Int := be L.length 2 ++ L.flatMap id
def goodBs (L : List (List Int)) : Prop := L.length ≤ 4096 ∧ ∀ x ∈ L, goodB x
theorem flat_128 : ∀ (L : List (List Int)), (∀ x ∈ L, goodB x) → (L.flatMap id).length = L.length * 128
  | [], _ => rfl
  | x :: xs, h => by
    rw [List.flatMap_cons, List.length_append, flat_128 xs (fun y hy => h y (List.mem_cons_of_mem _ hy)), List.length_cons, id, (h x List.mem_cons_self).1]
    omega
theorem blocks_law : Law blocksS goodBs encBs where
  lay := fun l v h => by
    have h1 := (count_law 2 4096 2 (by decide)).lay l v.length ⟨by omega, by have := h.1; omega⟩
    simp only [blocksS, h1, Int.toNat_natCast, pad_self, rowS_G, row_lay block_law v _ h.2, encBs, List.append_assoc, shortS]
    rfl
  read := fun l v0 v S hb h => by
    simp only [blocksS] at h
    split at h
    · cases h
    · rename_i n S1 h1
      obtain ⟨r1, rfl, hn, rfl⟩ := (count_law 2 4096 2 (by decide)).read _ _ _ _ hb h1
      split at h
      · cases h
      · rw [rowS_G] at h
        obtain ⟨r2, rfl, hl, hg, rfl⟩ := row_read block_law _ _ _ _ hb.right h
        rw [pad_length] at hl
        refine ⟨r2, rfl, ⟨by omega, hg⟩, ?_⟩
        rw [encBs, hl, Int.toNat_of_nonneg hn.1, List.append_assoc]
  back := fun v v0 rest h => by
    have h1 := (count_law 2 4096 2 (by decide)).back v.length v0.length (v.flatMap id ++ rest) ⟨by omega, by have := h.1; omega⟩
    have h2 : shortS (.R (v.flatMap id ++ rest)) v.length = false := by
      unfold shortS
      have := flat_128 v h.2
      simp only [List.length_append, this]
      exact decide_eq_false (by omega)
    simp only [blocksS, encBs, List.append_assoc, h1, Int.toNat_natCast, rowS_G, row_back block_law v (pad v0 v.length []) rest (pad_length _ _ _) h.2, h2]
    rfl
  short := fun v v0 l rest h he hr => by
    rcases cut_split (show be v.length 2 ++ v.flatMap id = l ++ rest from he) hr with ⟨r1, hr1, h1⟩ | ⟨l', rfl, h2⟩
    · have h1 := (count_law 2 4096 2 (by decide)).short v.length v0.length l r1 ⟨by omega, by have := h.1; omega⟩ h1 hr1
      simp only [blocksS, h1]
    · have h1 := (count_law 2 4096 2 (by decide)).back v.length v0.length l' ⟨by omega, by have := h.1; omega⟩
      have h3 : shortS (.R l') v.length = true := by
        unfold shortS
        have h4 := congrArg List.length h2
        rw [List.length_append, flat_128 v h.2] at h4
        have := ne_nil_pos hr
        exact decide_eq_true (by omega)
      simp only [blocksS, h1, Int.toNat_natCast, h3]
      rfl
  bytes := fun v h x hx => by
    rcases List.mem_append.1 hx with hx | hx
    · exact be_range _ _ x hx
    · exact row_bytes block_law v h.2 x hx
end Go.Proofs.Ytmjbdeoomohanaa.Mine
