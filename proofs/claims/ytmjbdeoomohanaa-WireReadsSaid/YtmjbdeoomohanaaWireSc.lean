/- wire: what the document's reader reads is what the program's does. -/
import Derived.Test.YtmjbdeoomohanaaWireSb
set_option linter.unusedSimpArgs false
set_option linter.unusedVariables false
namespace Go.Proofs.Ytmjbdeoomohanaa.Mine
open Go.RowKit Go.Maps Go.Proofs.YtmjbdeoomohanaaW.PrintWords Go.Proofs.YtmjbdeoomohanaaW.PrintLast Go.Proofs.YtmjbdeoomohanaaW.PrintMore Go.Proofs.Ytmjbdeoomohanaa.PWirePacks Go.Proofs.Ytmjbdeoomohanaa.Turn

def toS {α : Type} (Y : Except Int (α × List Int)) : Except Int (α × St) := match Y with
  | .ok y => .ok (y.1, .R y.2)
  | .error x => .error x
theorem numS_L (l : List Int) (n : Int) (sz : Nat) : numS (.R l) n sz = toS (numL l sz) := by
  unfold numS step numL toS
  by_cases h : l.length < sz
  · simp [h]
  · simp [h]
theorem countS_L (l : List Int) (n : Int) (sz : Nat) (most bad : Int) : countS (.R l) n sz most bad = toS (cntL l sz most bad) := by
  unfold countS step cntL toS
  by_cases h : l.length < sz
  · simp [h]
  · by_cases h2 : most < val (l.take sz)
    · simp [h, h2]
    · simp [h, h2]
theorem cutS_L (l bs : List Int) (n : Nat) : step (.R l) bs n = toS (cutL l n) := by
  unfold step cutL toS
  by_cases h : l.length < n
  · simp [h]
  · simp [h]
theorem textS_L (l bs : List Int) : textS (.R l) bs = toS (txtL l) := by
  unfold textS txtL
  rw [countS_L]
  cases cntL l 2 2048 2 with
  | error x => rfl
  | ok y => exact cutS_L _ _ _
theorem entS_L (l : List Int) (x : S44) : entS (.R l) x = toS (entL l) := by
  unfold entS entL
  rw [numS_L]
  cases numL l 8 with
  | error x => rfl
  | ok y =>
    simp only [toS]
    rw [numS_L]
    cases numL y.2 8 with
    | error x => rfl
    | ok z =>
      simp only [toS]
      rw [textS_L]
      cases txtL z.2 <;> rfl
theorem rowL_L : ∀ (xs : List S44) (l : List Int), rowL (.R l) xs = toS (manyL entL xs.length l)
  | [], l => rfl
  | x :: xs, l => by
    unfold rowL
    rw [entS_L, List.length_cons, manyL]
    cases entL l with
    | error x => rfl
    | ok y =>
      simp only [toS]
      rw [rowL_L xs y.2]
      cases manyL entL xs.length y.2 <;> rfl
theorem logS_L (l : List Int) (xs : List S44) : logS (.R l) xs = toS (logL l) := by
  unfold logS logL
  rw [countS_L]
  cases cntL l 1 64 2 with
  | error x => rfl
  | ok y =>
    simp only [toS]
    rw [rowL_L, pad_length]
    rfl
theorem rowS_L : ∀ (xs : List (List Int)) (l : List Int), rowS (.R l) xs = toS (manyL one128 xs.length l)
  | [], l => rfl
  | x :: xs, l => by
    unfold rowS
    rw [cutS_L l x, List.length_cons, manyL, show cutL l 128 = one128 l from rfl]
    cases one128 l with
    | error x => rfl
    | ok y =>
      simp only [toS]
      rw [rowS_L xs y.2]
      cases manyL one128 xs.length y.2 <;> rfl
theorem many_short : ∀ (n : Nat) (l : List Int), l.length < n * 128 → manyL one128 n l = .error 201
  | 0, l, h => by omega
  | n + 1, l, h => by
    unfold manyL
    by_cases h2 : l.length < 128
    · have : one128 l = .error 201 := by unfold one128 cutL; rw [if_pos h2]
      rw [this]
    · have : one128 l = .ok (l.take 128, l.drop 128) := by unfold one128 cutL; rw [if_neg h2]
      rw [this]
      simp only
      rw [many_short n (l.drop 128) (by rw [List.length_drop]; omega)]
theorem blocksS_L (l : List Int) (xs : List (List Int)) : blocksS (.R l) xs = toS (rawL l) := by
  unfold blocksS rawL
  rw [countS_L]
  cases cntL l 2 4096 2 with
  | error x => rfl
  | ok y =>
    simp only [toS]
    by_cases h : y.2.length < y.1.toNat * 128
    · rw [if_pos (show shortS (.R y.2) y.1.toNat = true from decide_eq_true h), many_short _ _ h]
    · rw [if_neg (show ¬ shortS (.R y.2) y.1.toNat = true from by unfold shortS; simpa using h), rowS_L, pad_length]
      rfl

def upL {α : Type} (upd : α → Msg) (Y : Except Int (α × List Int)) : Except Int (Msg × List Int) := match Y with
  | .ok y => .ok (upd y.1, y.2)
  | .error x => .error x
theorem up_rest {α : Type} (upd : α → Msg) (f : List Int → Except Int (α × List Int)) (Z : Except Int (List Int)) : rest (Z.bind fun l => upL upd (f l)) = rest (Z.bind f) := by
  cases Z with
  | error x => rfl
  | ok l =>
    show rest (upL upd (f l)) = rest (f l)
    cases f l <;> rfl
theorem up_val {α : Type} (upd : α → Msg) {f : List Int → Except Int (α × List Int)} {Z : Except Int (List Int)} {v : α} (h : ∀ y, Z.bind f = .ok y → v = y.1) : ∀ y, (Z.bind fun l => upL upd (f l)) = .ok y → upd v = y.1 := by
  intro y hy
  cases Z with
  | error x => cases hy
  | ok l =>
    have hy2 : upL upd (f l) = .ok y := hy
    have h2 : ∀ y, f l = .ok y → v = y.1 := h
    cases hf : f l with
    | error x => rw [hf] at hy2; cases hy2
    | ok z =>
      rw [hf] at hy2
      cases hy2
      rw [h2 z hf]
def fieldL (k : Nat) (l : List Int) (m : Msg) : Except Int (Msg × List Int) := match k with
  | 0 => upL (fun v => { m with view := v }) (numL l 8)
  | 1 => upL (fun v => { m with normal := v }) (numL l 8)
  | 2 => upL (fun v => { m with op := v }) (cntL l 1 64 1)
  | 3 => upL (fun v => { m with commit := v }) (cntL l 1 64 1)
  | 4 => upL (fun v => { m with log := v }) (logL l)
  | 5 => upL (fun v => { m with client := v }) (numL l 8)
  | 6 => upL (fun v => { m with seq := v }) (numL l 8)
  | 7 => upL (fun v => { m with body := v }) (txtL l)
  | 8 => upL (fun v => { m with key := v }) (numL l 8)
  | 9 => upL (fun v => { m with shard := v }) (numL l 1)
  | 10 => upL (fun v => { m with stripe := v }) (numL l 4)
  | 11 => upL (fun v => { m with code := v }) (numL l 2)
  | _ => upL (fun v => { m with blocks := v }) (rawL l)
theorem then_L {α : Type} (f : α → Msg) (Y : Except Int (α × List Int)) : thenS (toS Y) f = toS (upL f Y) := by
  cases Y <;> rfl
theorem fieldS_L {k : Nat} (hk : k < 13) (l : List Int) (m : Msg) : fieldS k (.R l) m = toS (fieldL k l m) := by
  have hd : k = 0 ∨ k = 1 ∨ k = 2 ∨ k = 3 ∨ k = 4 ∨ k = 5 ∨ k = 6 ∨ k = 7 ∨ k = 8 ∨ k = 9 ∨ k = 10 ∨ k = 11 ∨ k = 12 := by omega
  rcases hd with rfl | rfl | rfl | rfl | rfl | rfl | rfl | rfl | rfl | rfl | rfl | rfl | rfl <;> simp only [fieldS, fieldL, numS_L, countS_L, logS_L, textS_L, blocksS_L, then_L]
/-- n fields from the k-th on, those that h has. -/
def goL (h : Nat) : Nat → Nat → List Int → Msg → Except Int (Msg × List Int)
  | 0, _, l, m => .ok (m, l)
  | n + 1, k, l, m => if h.testBit k then (match fieldL k l m with
    | .error e => .error e
    | .ok (m', l') => goL h n (k + 1) l' m') else goL h n (k + 1) l m
theorem goS_L (h : Nat) : ∀ (n k : Nat) (l : List Int) (m : Msg), n + k ≤ 13 → goS h n k (.R l) m = toS (goL h n k l m)
  | 0, k, l, m, _ => rfl
  | n + 1, k, l, m, hn => by
    unfold goS goL
    by_cases hb : h.testBit k = true
    · rw [if_pos hb, if_pos hb, fieldS_L (by omega)]
      cases fieldL k l m with
      | error x => rfl
      | ok y => exact goS_L h n (k + 1) y.2 y.1 (by omega)
    · rw [if_neg hb, if_neg hb]
      exact goS_L h n (k + 1) l m (by omega)
def parseL (l : List Int) : Except Int Msg :=
  match numL l 1 with
  | .error e => .error e
  | .ok (t, l1) => if hasB t = 0 then .error 1 else
    match goL (hasB t) 13 0 l1 (zM t) with
    | .error e => .error e
    | .ok (m, l2) => if 0 < l2.length then .error 6 else .ok m
theorem parseS_L (l : List Int) : parseS l = parseL l := by
  unfold parseS parseL
  rw [numS_L]
  cases numL l 1 with
  | error x => rfl
  | ok y =>
    simp only [toS]
    split
    · rfl
    · rw [allS, show (zM y.1).ty = y.1 from rfl, goS_L _ _ _ _ _ (by omega)]
      cases goL (hasB y.1) 13 0 y.2 (zM y.1) <;> rfl
end Go.Proofs.Ytmjbdeoomohanaa.Mine
