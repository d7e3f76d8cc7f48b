/- wire: a coder that reads goes on reading. -/
import Derived.Test.YtmjbdeoomohanaaWireN
set_option linter.unusedSimpArgs false
set_option linter.unusedVariables false
namespace Go.Proofs.Ytmjbdeoomohanaa.Mine
open Go.RowKit Go.Maps Go.Proofs.YtmjbdeoomohanaaW.PrintWords Go.Proofs.YtmjbdeoomohanaaW.PrintLast Go.Proofs.YtmjbdeoomohanaaW.PrintMore Go.Proofs.Ytmjbdeoomohanaa.PWirePacks Go.Proofs.Ytmjbdeoomohanaa.Turn

def isR : St → Bool
  | .W _ => false
  | .R _ => true
theorem step_mode {S S' : St} {bs r : List Int} {n : Nat} (h : step S bs n = .ok (r, S')) : isR S' = isR S := by
  cases S with
  | W l =>
    simp only [step, Except.ok.injEq, Prod.mk.injEq] at h
    rw [← h.2]; rfl
  | R l =>
    simp only [step] at h
    split at h
    · cases h
    · simp only [Except.ok.injEq, Prod.mk.injEq] at h
      rw [← h.2]; rfl
theorem numS_mode {S S' : St} {n r : Int} {sz : Nat} (h : numS S n sz = .ok (r, S')) : isR S' = isR S := by
  unfold numS at h
  split at h
  · cases h
  · rename_i r1 S1 h1
    simp only [Except.ok.injEq, Prod.mk.injEq] at h
    rw [← h.2]; exact step_mode h1
theorem countS_mode {S S' : St} {n r : Int} {sz : Nat} {most bad : Int} (h : countS S n sz most bad = .ok (r, S')) : isR S' = isR S := by
  unfold countS at h
  split at h
  · cases h
  · rename_i r1 S1 h1
    split at h
    · cases h
    · simp only [Except.ok.injEq, Prod.mk.injEq] at h
      rw [← h.2]; exact step_mode h1
theorem textS_mode {S S' : St} {bs r : List Int} (h : textS S bs = .ok (r, S')) : isR S' = isR S := by
  unfold textS at h
  split at h
  · cases h
  · rename_i r1 S1 h1
    rw [step_mode h, countS_mode h1]
theorem entS_mode {S S' : St} {x r : S44} (h : entS S x = .ok (r, S')) : isR S' = isR S := by
  unfold entS at h
  split at h
  · cases h
  · rename_i a S1 h1
    split at h
    · cases h
    · rename_i c S2 h2
      split at h
      · cases h
      · rename_i q S3 h3
        simp only [Except.ok.injEq, Prod.mk.injEq] at h
        rw [← h.2, textS_mode h3, numS_mode h2, numS_mode h1]
theorem rowL_mode : ∀ {L L' : List S44} {S S' : St}, rowL S L = .ok (L', S') → isR S' = isR S
  | [], L', S, S', h => by
    simp only [rowL, Except.ok.injEq, Prod.mk.injEq] at h
    rw [h.2]
  | x :: L, L', S, S', h => by
    simp only [rowL] at h
    split at h
    · cases h
    · rename_i r S1 h1
      split at h
      · cases h
      · rename_i rs S2 h2
        simp only [Except.ok.injEq, Prod.mk.injEq] at h
        rw [← h.2, rowL_mode h2, entS_mode h1]
theorem rowS_mode : ∀ {L L' : List (List Int)} {S S' : St}, rowS S L = .ok (L', S') → isR S' = isR S
  | [], L', S, S', h => by
    simp only [rowS, Except.ok.injEq, Prod.mk.injEq] at h
    rw [h.2]
  | x :: L, L', S, S', h => by
    simp only [rowS] at h
    split at h
    · cases h
    · rename_i r S1 h1
      split at h
      · cases h
      · rename_i rs S2 h2
        simp only [Except.ok.injEq, Prod.mk.injEq] at h
        rw [← h.2, rowS_mode h2, step_mode h1]
theorem logS_mode {S S' : St} {l r : List S44} (h : logS S l = .ok (r, S')) : isR S' = isR S := by
  unfold logS at h
  split at h
  · cases h
  · rename_i r1 S1 h1
    rw [rowL_mode h, countS_mode h1]
theorem blocksS_mode {S S' : St} {l r : List (List Int)} (h : blocksS S l = .ok (r, S')) : isR S' = isR S := by
  unfold blocksS at h
  split at h
  · cases h
  · rename_i r1 S1 h1
    split at h
    · cases h
    · rw [rowS_mode h, countS_mode h1]
theorem fieldS_mode {k : Nat} {S S' : St} {m m' : Msg} (hk : k < 13) (h : fieldS k S m = .ok (m', S')) : isR S' = isR S := by
  have hd : k = 0 ∨ k = 1 ∨ k = 2 ∨ k = 3 ∨ k = 4 ∨ k = 5 ∨ k = 6 ∨ k = 7 ∨ k = 8 ∨ k = 9 ∨ k = 10 ∨ k = 11 ∨ k = 12 := by omega
  rcases hd with rfl | rfl | rfl | rfl | rfl | rfl | rfl | rfl | rfl | rfl | rfl | rfl | rfl <;> obtain ⟨r, h1, rfl⟩ := thenS_ok h
  case inr.inr.inr.inr.inl => exact logS_mode h1
  case inr.inr.inr.inr.inr.inr.inr.inl => exact textS_mode h1
  case inr.inr.inr.inr.inr.inr.inr.inr.inr.inr.inr.inr => exact blocksS_mode h1
  all_goals first
    | exact numS_mode h1
    | exact countS_mode h1
theorem goS_mode (h : Nat) : ∀ {n k : Nat} {S S' : St} {m m' : Msg}, n + k ≤ 13 → goS h n k S m = .ok (m', S') → isR S' = isR S
  | 0, k, S, S', m, m', _, hs => by
    simp only [goS, Except.ok.injEq, Prod.mk.injEq] at hs
    rw [hs.2]
  | n + 1, k, S, S', m, m', hn, hs => by
    simp only [goS] at hs
    split at hs
    · split at hs
      · cases hs
      · rename_i m1 S1 h1
        rw [goS_mode h (by omega) hs, fieldS_mode (by omega) h1]
    · exact goS_mode h (by omega) hs
theorem allS_mode {S S' : St} {m m' : Msg} (h : allS S m = .ok (m', S')) : isR S' = isR S := goS_mode _ (by omega) h
end Go.Proofs.Ytmjbdeoomohanaa.Mine
