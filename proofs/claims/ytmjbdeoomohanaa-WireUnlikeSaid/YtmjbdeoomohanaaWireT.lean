/- wire: the plain law of messages. -/
import Derived.Test.YtmjbdeoomohanaaWireS
import Derived.Test.YtmjbdeoomohanaaWireR
set_option linter.unusedSimpArgs false
set_option linter.unusedVariables false
namespace Go.Proofs.Ytmjbdeoomohanaa.Mine
open Go.RowKit Go.Maps Go.Proofs.YtmjbdeoomohanaaW.PrintWords Go.Proofs.YtmjbdeoomohanaaW.PrintLast Go.Proofs.YtmjbdeoomohanaaW.PrintMore Go.Proofs.Ytmjbdeoomohanaa.PWirePacks Go.Proofs.Ytmjbdeoomohanaa.Turn

def encF : Nat → Msg → List Int
  | 0, m => be m.view 8
  | 1, m => be m.normal 8
  | 2, m => be m.op 1
  | 3, m => be m.commit 1
  | 4, m => encL m.log
  | 5, m => be m.client 8
  | 6, m => be m.seq 8
  | 7, m => encT m.body
  | 8, m => be m.key 8
  | 9, m => be m.shard 1
  | 10, m => be m.stripe 4
  | 11, m => be m.code 2
  | _, m => encBs m.blocks
def goodF : Nat → Msg → Prop
  | 0, m => 0 ≤ m.view ∧ m.view < 256 ^ 8
  | 1, m => 0 ≤ m.normal ∧ m.normal < 256 ^ 8
  | 2, m => 0 ≤ m.op ∧ m.op ≤ 64
  | 3, m => 0 ≤ m.commit ∧ m.commit ≤ 64
  | 4, m => goodL m.log
  | 5, m => 0 ≤ m.client ∧ m.client < 256 ^ 8
  | 6, m => 0 ≤ m.seq ∧ m.seq < 256 ^ 8
  | 7, m => goodT m.body
  | 8, m => 0 ≤ m.key ∧ m.key < 256 ^ 8
  | 9, m => 0 ≤ m.shard ∧ m.shard < 256 ^ 1
  | 10, m => 0 ≤ m.stripe ∧ m.stripe < 256 ^ 4
  | 11, m => 0 ≤ m.code ∧ m.code < 256 ^ 2
  | _, m => goodBs m.blocks
def sameF : Nat → Msg → Msg → Prop
  | 0, m, m2 => m.view = m2.view
  | 1, m, m2 => m.normal = m2.normal
  | 2, m, m2 => m.op = m2.op
  | 3, m, m2 => m.commit = m2.commit
  | 4, m, m2 => m.log = m2.log
  | 5, m, m2 => m.client = m2.client
  | 6, m, m2 => m.seq = m2.seq
  | 7, m, m2 => m.body = m2.body
  | 8, m, m2 => m.key = m2.key
  | 9, m, m2 => m.shard = m2.shard
  | 10, m, m2 => m.stripe = m2.stripe
  | 11, m, m2 => m.code = m2.code
  | _, m, m2 => m.blocks = m2.blocks
def setF : Nat → Msg → Msg → Msg
  | 0, m, m2 => { m with view := m2.view }
  | 1, m, m2 => { m with normal := m2.normal }
  | 2, m, m2 => { m with op := m2.op }
  | 3, m, m2 => { m with commit := m2.commit }
  | 4, m, m2 => { m with log := m2.log }
  | 5, m, m2 => { m with client := m2.client }
  | 6, m, m2 => { m with seq := m2.seq }
  | 7, m, m2 => { m with body := m2.body }
  | 8, m, m2 => { m with key := m2.key }
  | 9, m, m2 => { m with shard := m2.shard }
  | 10, m, m2 => { m with stripe := m2.stripe }
  | 11, m, m2 => { m with code := m2.code }
  | _, m, m2 => { m with blocks := m2.blocks }
theorem Msg.ext13 {m m2 : Msg} (h : m.ty = m2.ty) (hs : ∀ i, i < 13 → sameF i m m2) : m = m2 := by
  have h0 : m.view = m2.view := hs 0 (by omega)
  have h1 : m.normal = m2.normal := hs 1 (by omega)
  have h2 : m.op = m2.op := hs 2 (by omega)
  have h3 : m.commit = m2.commit := hs 3 (by omega)
  have h4 : m.log = m2.log := hs 4 (by omega)
  have h5 : m.client = m2.client := hs 5 (by omega)
  have h6 : m.seq = m2.seq := hs 6 (by omega)
  have h7 : m.body = m2.body := hs 7 (by omega)
  have h8 : m.key = m2.key := hs 8 (by omega)
  have h9 : m.shard = m2.shard := hs 9 (by omega)
  have h10 : m.stripe = m2.stripe := hs 10 (by omega)
  have h11 : m.code = m2.code := hs 11 (by omega)
  have h12 : m.blocks = m2.blocks := hs 12 (by omega)
  cases m; cases m2; simp only at *; simp only [h, h0, h1, h2, h3, h4, h5, h6, h7, h8, h9, h10, h11, h12]
theorem sameF_refl {k : Nat} (hk : k < 13) (m : Msg) : sameF k m m := by
  have hd : k = 0 ∨ k = 1 ∨ k = 2 ∨ k = 3 ∨ k = 4 ∨ k = 5 ∨ k = 6 ∨ k = 7 ∨ k = 8 ∨ k = 9 ∨ k = 10 ∨ k = 11 ∨ k = 12 := by omega
  rcases hd with rfl | rfl | rfl | rfl | rfl | rfl | rfl | rfl | rfl | rfl | rfl | rfl | rfl <;> rfl
theorem sameF_symm {k : Nat} (hk : k < 13) {m m2 : Msg} (h : sameF k m m2) : sameF k m2 m := by
  have hd : k = 0 ∨ k = 1 ∨ k = 2 ∨ k = 3 ∨ k = 4 ∨ k = 5 ∨ k = 6 ∨ k = 7 ∨ k = 8 ∨ k = 9 ∨ k = 10 ∨ k = 11 ∨ k = 12 := by omega
  rcases hd with rfl | rfl | rfl | rfl | rfl | rfl | rfl | rfl | rfl | rfl | rfl | rfl | rfl <;> exact Eq.symm h
theorem sameF_trans {k : Nat} (hk : k < 13) {m m2 m3 : Msg} (h : sameF k m m2) (h2 : sameF k m2 m3) : sameF k m m3 := by
  have hd : k = 0 ∨ k = 1 ∨ k = 2 ∨ k = 3 ∨ k = 4 ∨ k = 5 ∨ k = 6 ∨ k = 7 ∨ k = 8 ∨ k = 9 ∨ k = 10 ∨ k = 11 ∨ k = 12 := by omega
  rcases hd with rfl | rfl | rfl | rfl | rfl | rfl | rfl | rfl | rfl | rfl | rfl | rfl | rfl <;> exact Eq.trans h h2
theorem encF_same {k : Nat} (hk : k < 13) {m m2 : Msg} (h : sameF k m m2) : encF k m = encF k m2 := by
  have hd : k = 0 ∨ k = 1 ∨ k = 2 ∨ k = 3 ∨ k = 4 ∨ k = 5 ∨ k = 6 ∨ k = 7 ∨ k = 8 ∨ k = 9 ∨ k = 10 ∨ k = 11 ∨ k = 12 := by omega
  rcases hd with rfl | rfl | rfl | rfl | rfl | rfl | rfl | rfl | rfl | rfl | rfl | rfl | rfl <;> simp only [sameF] at h <;> simp only [encF, h]
theorem goodF_same {k : Nat} (hk : k < 13) {m m2 : Msg} (h : sameF k m m2) (hg : goodF k m) : goodF k m2 := by
  have hd : k = 0 ∨ k = 1 ∨ k = 2 ∨ k = 3 ∨ k = 4 ∨ k = 5 ∨ k = 6 ∨ k = 7 ∨ k = 8 ∨ k = 9 ∨ k = 10 ∨ k = 11 ∨ k = 12 := by omega
  rcases hd with rfl | rfl | rfl | rfl | rfl | rfl | rfl | rfl | rfl | rfl | rfl | rfl | rfl <;> simp only [sameF] at h <;> simpa only [goodF, h] using hg
theorem setF_same {k : Nat} (hk : k < 13) (m m2 : Msg) : sameF k (setF k m m2) m2 := by
  have hd : k = 0 ∨ k = 1 ∨ k = 2 ∨ k = 3 ∨ k = 4 ∨ k = 5 ∨ k = 6 ∨ k = 7 ∨ k = 8 ∨ k = 9 ∨ k = 10 ∨ k = 11 ∨ k = 12 := by omega
  rcases hd with rfl | rfl | rfl | rfl | rfl | rfl | rfl | rfl | rfl | rfl | rfl | rfl | rfl <;> rfl
theorem setF_else {k i : Nat} (hk : k < 13) (hi : i < 13) (hki : i ≠ k) (m m2 : Msg) : sameF i (setF k m m2) m := by
  have hd : k = 0 ∨ k = 1 ∨ k = 2 ∨ k = 3 ∨ k = 4 ∨ k = 5 ∨ k = 6 ∨ k = 7 ∨ k = 8 ∨ k = 9 ∨ k = 10 ∨ k = 11 ∨ k = 12 := by omega
  have he : i = 0 ∨ i = 1 ∨ i = 2 ∨ i = 3 ∨ i = 4 ∨ i = 5 ∨ i = 6 ∨ i = 7 ∨ i = 8 ∨ i = 9 ∨ i = 10 ∨ i = 11 ∨ i = 12 := by omega
  rcases hd with rfl | rfl | rfl | rfl | rfl | rfl | rfl | rfl | rfl | rfl | rfl | rfl | rfl <;> rcases he with rfl | rfl | rfl | rfl | rfl | rfl | rfl | rfl | rfl | rfl | rfl | rfl | rfl <;> first | rfl | exact absurd rfl hki
theorem setF_ty {k : Nat} (hk : k < 13) (m m2 : Msg) : (setF k m m2).ty = m.ty := by
  have hd : k = 0 ∨ k = 1 ∨ k = 2 ∨ k = 3 ∨ k = 4 ∨ k = 5 ∨ k = 6 ∨ k = 7 ∨ k = 8 ∨ k = 9 ∨ k = 10 ∨ k = 11 ∨ k = 12 := by omega
  rcases hd with rfl | rfl | rfl | rfl | rfl | rfl | rfl | rfl | rfl | rfl | rfl | rfl | rfl <;> rfl
theorem zero_good {k : Nat} (hk : k < 13) (t : Int) : goodF k (zM t) := by
  have hd : k = 0 ∨ k = 1 ∨ k = 2 ∨ k = 3 ∨ k = 4 ∨ k = 5 ∨ k = 6 ∨ k = 7 ∨ k = 8 ∨ k = 9 ∨ k = 10 ∨ k = 11 ∨ k = 12 := by omega
  rcases hd with rfl | rfl | rfl | rfl | rfl | rfl | rfl | rfl | rfl | rfl | rfl | rfl | rfl <;> simp [goodF, zM, goodL, goodT, goodBs, Byt]
theorem field_bytes {k : Nat} (hk : k < 13) {m : Msg} (h : goodF k m) : Byt (encF k m) := by
  have hd : k = 0 ∨ k = 1 ∨ k = 2 ∨ k = 3 ∨ k = 4 ∨ k = 5 ∨ k = 6 ∨ k = 7 ∨ k = 8 ∨ k = 9 ∨ k = 10 ∨ k = 11 ∨ k = 12 := by omega
  rcases hd with rfl | rfl | rfl | rfl | rfl | rfl | rfl | rfl | rfl | rfl | rfl | rfl | rfl
  · exact (num_law 8).bytes _ h
  · exact (num_law 8).bytes _ h
  · exact (count_law 1 64 1 (by decide)).bytes _ h
  · exact (count_law 1 64 1 (by decide)).bytes _ h
  · exact log_law.bytes _ h
  · exact (num_law 8).bytes _ h
  · exact (num_law 8).bytes _ h
  · exact text_law.bytes _ h
  · exact (num_law 8).bytes _ h
  · exact (num_law 1).bytes _ h
  · exact (num_law 4).bytes _ h
  · exact (num_law 2).bytes _ h
  · exact blocks_law.bytes _ h
theorem field_lay {k : Nat} (hk : k < 13) (l : List Int) (m : Msg) (h : goodF k m) : fieldS k (.W l) m = .ok (m, .W (l ++ encF k m)) := by
  have hd : k = 0 ∨ k = 1 ∨ k = 2 ∨ k = 3 ∨ k = 4 ∨ k = 5 ∨ k = 6 ∨ k = 7 ∨ k = 8 ∨ k = 9 ∨ k = 10 ∨ k = 11 ∨ k = 12 := by omega
  rcases hd with rfl | rfl | rfl | rfl | rfl | rfl | rfl | rfl | rfl | rfl | rfl | rfl | rfl
  · have h1 : numS (.W l) m.view 8 = _ := (num_law 8).lay l _ h
    simp only [fieldS, h1, thenS, encF]
  · have h1 : numS (.W l) m.normal 8 = _ := (num_law 8).lay l _ h
    simp only [fieldS, h1, thenS, encF]
  · have h1 : countS (.W l) m.op 1 64 1 = _ := (count_law 1 64 1 (by decide)).lay l _ h
    simp only [fieldS, h1, thenS, encF]
  · have h1 : countS (.W l) m.commit 1 64 1 = _ := (count_law 1 64 1 (by decide)).lay l _ h
    simp only [fieldS, h1, thenS, encF]
  · have h1 : logS (.W l) m.log = _ := log_law.lay l _ h
    simp only [fieldS, h1, thenS, encF]
  · have h1 : numS (.W l) m.client 8 = _ := (num_law 8).lay l _ h
    simp only [fieldS, h1, thenS, encF]
  · have h1 : numS (.W l) m.seq 8 = _ := (num_law 8).lay l _ h
    simp only [fieldS, h1, thenS, encF]
  · have h1 : textS (.W l) m.body = _ := text_law.lay l _ h
    simp only [fieldS, h1, thenS, encF]
  · have h1 : numS (.W l) m.key 8 = _ := (num_law 8).lay l _ h
    simp only [fieldS, h1, thenS, encF]
  · have h1 : numS (.W l) m.shard 1 = _ := (num_law 1).lay l _ h
    simp only [fieldS, h1, thenS, encF]
  · have h1 : numS (.W l) m.stripe 4 = _ := (num_law 4).lay l _ h
    simp only [fieldS, h1, thenS, encF]
  · have h1 : numS (.W l) m.code 2 = _ := (num_law 2).lay l _ h
    simp only [fieldS, h1, thenS, encF]
  · have h1 : blocksS (.W l) m.blocks = _ := blocks_law.lay l _ h
    simp only [fieldS, h1, thenS, encF]
theorem field_read {k : Nat} (hk : k < 13) {l : List Int} {m m2 : Msg} {S : St} (hb : Byt l) (h : fieldS k (.R l) m = .ok (m2, S)) : ∃ rest, S = .R rest ∧ goodF k m2 ∧ l = encF k m2 ++ rest ∧ m2 = setF k m m2 := by
  have hd : k = 0 ∨ k = 1 ∨ k = 2 ∨ k = 3 ∨ k = 4 ∨ k = 5 ∨ k = 6 ∨ k = 7 ∨ k = 8 ∨ k = 9 ∨ k = 10 ∨ k = 11 ∨ k = 12 := by omega
  rcases hd with rfl | rfl | rfl | rfl | rfl | rfl | rfl | rfl | rfl | rfl | rfl | rfl | rfl
  · obtain ⟨r, h1, rfl⟩ := thenS_ok h
    obtain ⟨rest, e, g, el⟩ := (num_law 8).read _ _ _ _ hb h1
    exact ⟨rest, e, g, el, rfl⟩
  · obtain ⟨r, h1, rfl⟩ := thenS_ok h
    obtain ⟨rest, e, g, el⟩ := (num_law 8).read _ _ _ _ hb h1
    exact ⟨rest, e, g, el, rfl⟩
  · obtain ⟨r, h1, rfl⟩ := thenS_ok h
    obtain ⟨rest, e, g, el⟩ := (count_law 1 64 1 (by decide)).read _ _ _ _ hb h1
    exact ⟨rest, e, g, el, rfl⟩
  · obtain ⟨r, h1, rfl⟩ := thenS_ok h
    obtain ⟨rest, e, g, el⟩ := (count_law 1 64 1 (by decide)).read _ _ _ _ hb h1
    exact ⟨rest, e, g, el, rfl⟩
  · obtain ⟨r, h1, rfl⟩ := thenS_ok h
    obtain ⟨rest, e, g, el⟩ := log_law.read _ _ _ _ hb h1
    exact ⟨rest, e, g, el, rfl⟩
  · obtain ⟨r, h1, rfl⟩ := thenS_ok h
    obtain ⟨rest, e, g, el⟩ := (num_law 8).read _ _ _ _ hb h1
    exact ⟨rest, e, g, el, rfl⟩
  · obtain ⟨r, h1, rfl⟩ := thenS_ok h
    obtain ⟨rest, e, g, el⟩ := (num_law 8).read _ _ _ _ hb h1
    exact ⟨rest, e, g, el, rfl⟩
  · obtain ⟨r, h1, rfl⟩ := thenS_ok h
    obtain ⟨rest, e, g, el⟩ := text_law.read _ _ _ _ hb h1
    exact ⟨rest, e, g, el, rfl⟩
  · obtain ⟨r, h1, rfl⟩ := thenS_ok h
    obtain ⟨rest, e, g, el⟩ := (num_law 8).read _ _ _ _ hb h1
    exact ⟨rest, e, g, el, rfl⟩
  · obtain ⟨r, h1, rfl⟩ := thenS_ok h
    obtain ⟨rest, e, g, el⟩ := (num_law 1).read _ _ _ _ hb h1
    exact ⟨rest, e, g, el, rfl⟩
  · obtain ⟨r, h1, rfl⟩ := thenS_ok h
    obtain ⟨rest, e, g, el⟩ := (num_law 4).read _ _ _ _ hb h1
    exact ⟨rest, e, g, el, rfl⟩
  · obtain ⟨r, h1, rfl⟩ := thenS_ok h
    obtain ⟨rest, e, g, el⟩ := (num_law 2).read _ _ _ _ hb h1
    exact ⟨rest, e, g, el, rfl⟩
  · obtain ⟨r, h1, rfl⟩ := thenS_ok h
    obtain ⟨rest, e, g, el⟩ := blocks_law.read _ _ _ _ hb h1
    exact ⟨rest, e, g, el, rfl⟩
theorem field_back {k : Nat} (hk : k < 13) (rest : List Int) (m m0 : Msg) (h : goodF k m) : fieldS k (.R (encF k m ++ rest)) m0 = .ok (setF k m0 m, .R rest) := by
  have hd : k = 0 ∨ k = 1 ∨ k = 2 ∨ k = 3 ∨ k = 4 ∨ k = 5 ∨ k = 6 ∨ k = 7 ∨ k = 8 ∨ k = 9 ∨ k = 10 ∨ k = 11 ∨ k = 12 := by omega
  rcases hd with rfl | rfl | rfl | rfl | rfl | rfl | rfl | rfl | rfl | rfl | rfl | rfl | rfl
  · have h1 : numS (.R (be m.view 8 ++ rest)) m0.view 8 = _ := (num_law 8).back m.view m0.view rest h
    simp only [fieldS, encF, h1, thenS, setF]
  · have h1 : numS (.R (be m.normal 8 ++ rest)) m0.normal 8 = _ := (num_law 8).back m.normal m0.normal rest h
    simp only [fieldS, encF, h1, thenS, setF]
  · have h1 : countS (.R (be m.op 1 ++ rest)) m0.op 1 64 1 = _ := (count_law 1 64 1 (by decide)).back m.op m0.op rest h
    simp only [fieldS, encF, h1, thenS, setF]
  · have h1 : countS (.R (be m.commit 1 ++ rest)) m0.commit 1 64 1 = _ := (count_law 1 64 1 (by decide)).back m.commit m0.commit rest h
    simp only [fieldS, encF, h1, thenS, setF]
  · have h1 : logS (.R (encL m.log ++ rest)) m0.log = _ := log_law.back m.log m0.log rest h
    simp only [fieldS, encF, h1, thenS, setF]
  · have h1 : numS (.R (be m.client 8 ++ rest)) m0.client 8 = _ := (num_law 8).back m.client m0.client rest h
    simp only [fieldS, encF, h1, thenS, setF]
  · have h1 : numS (.R (be m.seq 8 ++ rest)) m0.seq 8 = _ := (num_law 8).back m.seq m0.seq rest h
    simp only [fieldS, encF, h1, thenS, setF]
  · have h1 : textS (.R (encT m.body ++ rest)) m0.body = _ := text_law.back m.body m0.body rest h
    simp only [fieldS, encF, h1, thenS, setF]
  · have h1 : numS (.R (be m.key 8 ++ rest)) m0.key 8 = _ := (num_law 8).back m.key m0.key rest h
    simp only [fieldS, encF, h1, thenS, setF]
  · have h1 : numS (.R (be m.shard 1 ++ rest)) m0.shard 1 = _ := (num_law 1).back m.shard m0.shard rest h
    simp only [fieldS, encF, h1, thenS, setF]
  · have h1 : numS (.R (be m.stripe 4 ++ rest)) m0.stripe 4 = _ := (num_law 4).back m.stripe m0.stripe rest h
    simp only [fieldS, encF, h1, thenS, setF]
  · have h1 : numS (.R (be m.code 2 ++ rest)) m0.code 2 = _ := (num_law 2).back m.code m0.code rest h
    simp only [fieldS, encF, h1, thenS, setF]
  · have h1 : blocksS (.R (encBs m.blocks ++ rest)) m0.blocks = _ := blocks_law.back m.blocks m0.blocks rest h
    simp only [fieldS, encF, h1, thenS, setF]
theorem field_short {k : Nat} (hk : k < 13) (l rest : List Int) (m m0 : Msg) (h : goodF k m) (he : encF k m = l ++ rest) (hr : rest ≠ []) : fieldS k (.R l) m0 = .error 201 := by
  have hd : k = 0 ∨ k = 1 ∨ k = 2 ∨ k = 3 ∨ k = 4 ∨ k = 5 ∨ k = 6 ∨ k = 7 ∨ k = 8 ∨ k = 9 ∨ k = 10 ∨ k = 11 ∨ k = 12 := by omega
  rcases hd with rfl | rfl | rfl | rfl | rfl | rfl | rfl | rfl | rfl | rfl | rfl | rfl | rfl
  · have h1 : numS (.R l) m0.view 8 = _ := (num_law 8).short m.view m0.view l rest h he hr
    simp only [fieldS, h1, thenS]
  · have h1 : numS (.R l) m0.normal 8 = _ := (num_law 8).short m.normal m0.normal l rest h he hr
    simp only [fieldS, h1, thenS]
  · have h1 : countS (.R l) m0.op 1 64 1 = _ := (count_law 1 64 1 (by decide)).short m.op m0.op l rest h he hr
    simp only [fieldS, h1, thenS]
  · have h1 : countS (.R l) m0.commit 1 64 1 = _ := (count_law 1 64 1 (by decide)).short m.commit m0.commit l rest h he hr
    simp only [fieldS, h1, thenS]
  · have h1 : logS (.R l) m0.log = _ := log_law.short m.log m0.log l rest h he hr
    simp only [fieldS, h1, thenS]
  · have h1 : numS (.R l) m0.client 8 = _ := (num_law 8).short m.client m0.client l rest h he hr
    simp only [fieldS, h1, thenS]
  · have h1 : numS (.R l) m0.seq 8 = _ := (num_law 8).short m.seq m0.seq l rest h he hr
    simp only [fieldS, h1, thenS]
  · have h1 : textS (.R l) m0.body = _ := text_law.short m.body m0.body l rest h he hr
    simp only [fieldS, h1, thenS]
  · have h1 : numS (.R l) m0.key 8 = _ := (num_law 8).short m.key m0.key l rest h he hr
    simp only [fieldS, h1, thenS]
  · have h1 : numS (.R l) m0.shard 1 = _ := (num_law 1).short m.shard m0.shard l rest h he hr
    simp only [fieldS, h1, thenS]
  · have h1 : numS (.R l) m0.stripe 4 = _ := (num_law 4).short m.stripe m0.stripe l rest h he hr
    simp only [fieldS, h1, thenS]
  · have h1 : numS (.R l) m0.code 2 = _ := (num_law 2).short m.code m0.code l rest h he hr
    simp only [fieldS, h1, thenS]
  · have h1 : blocksS (.R l) m0.blocks = _ := blocks_law.short m.blocks m0.blocks l rest h he hr
    simp only [fieldS, h1, thenS]
/-- The bytes of n fields from the k-th on. -/
def encG (h : Nat) : Nat → Nat → Msg → List Int
  | 0, _, _ => []
  | n + 1, k, m => (if h.testBit k then encF k m else []) ++ encG h n (k + 1) m
def goodG (h n k : Nat) (m : Msg) : Prop := ∀ i, k ≤ i → i < k + n → h.testBit i = true → goodF i m
theorem goS_lay (h : Nat) : ∀ (n k : Nat) (l : List Int) (m : Msg), n + k ≤ 13 → goodG h n k m → goS h n k (.W l) m = .ok (m, .W (l ++ encG h n k m))
  | 0, k, l, m, _, _ => by simp [goS, encG]
  | n + 1, k, l, m, hn, hg => by
    simp only [goS, encG]
    cases ht : h.testBit k with
    | false =>
      rw [if_neg (by simp), if_neg (by simp), List.nil_append]
      exact goS_lay h n (k + 1) l m (by omega) (fun i h1 h2 h3 => hg i (by omega) (by omega) h3)
    | true =>
      rw [if_pos rfl, if_pos rfl, field_lay (by omega) l m (hg k (Nat.le_refl _) (by omega) ht), ← List.append_assoc]
      exact goS_lay h n (k + 1) _ m (by omega) (fun i h1 h2 h3 => hg i (by omega) (by omega) h3)
theorem goS_back (h : Nat) : ∀ (n k : Nat) (rest : List Int) (m m0 : Msg), n + k ≤ 13 → goodG h n k m →
    ∃ m1, goS h n k (.R (encG h n k m ++ rest)) m0 = .ok (m1, .R rest) ∧ m1.ty = m0.ty ∧ ∀ i, i < 13 → (k ≤ i ∧ i < k + n ∧ h.testBit i = true → sameF i m1 m) ∧ (¬ (k ≤ i ∧ i < k + n ∧ h.testBit i = true) → sameF i m1 m0)
  | 0, k, rest, m, m0, _, _ => ⟨m0, by simp [goS, encG], rfl, fun i hi => ⟨fun h => by omega, fun _ => sameF_refl hi m0⟩⟩
  | n + 1, k, rest, m, m0, hn, hg => by
    simp only [goS, encG]
    cases ht : h.testBit k with
    | false =>
      rw [if_neg (by simp), if_neg (by simp), List.nil_append]
      obtain ⟨m1, h1, h2, h3⟩ := goS_back h n (k + 1) rest m m0 (by omega) (fun i h1 h2 h3 => hg i (by omega) (by omega) h3)
      refine ⟨m1, h1, h2, fun i hi => ⟨fun hq => (h3 i hi).1 ⟨?_, by omega, hq.2.2⟩, fun hq => (h3 i hi).2 (fun hq2 => hq ⟨by omega, by omega, hq2.2.2⟩)⟩⟩
      rcases Nat.lt_or_ge k i with h4 | h4
      · omega
      · have : i = k := by omega
        rw [this, ht] at hq
        cases hq.2.2
    | true =>
      rw [if_pos rfl, if_pos rfl, List.append_assoc, field_back (by omega) _ m m0 (hg k (Nat.le_refl _) (by omega) ht)]
      obtain ⟨m1, h1, h2, h3⟩ := goS_back h n (k + 1) rest m (setF k m0 m) (by omega) (fun i h1 h2 h3 => hg i (by omega) (by omega) h3)
      refine ⟨m1, h1, h2.trans (setF_ty (by omega) m0 m), fun i hi => ?_⟩
      by_cases hik : i = k
      · subst hik
        have h4 := (h3 i hi).2 (by omega)
        exact ⟨fun _ => sameF_trans hi h4 (setF_same hi m0 m), fun hq => absurd ⟨Nat.le_refl _, by omega, ht⟩ hq⟩
      · refine ⟨fun hq => (h3 i hi).1 ⟨by omega, by omega, hq.2.2⟩, fun hq => sameF_trans hi ((h3 i hi).2 (fun hq2 => hq ⟨by omega, by omega, hq2.2.2⟩)) (setF_else (by omega) hi hik m0 m)⟩
theorem goS_read (h : Nat) : ∀ (n k : Nat) (l : List Int) (m0 m1 : Msg) (S : St), n + k ≤ 13 → Byt l → goS h n k (.R l) m0 = .ok (m1, S) →
    ∃ rest, S = .R rest ∧ l = encG h n k m1 ++ rest ∧ goodG h n k m1 ∧ m1.ty = m0.ty ∧ ∀ i, i < 13 → ¬ (k ≤ i ∧ i < k + n ∧ h.testBit i = true) → sameF i m1 m0
  | 0, k, l, m0, m1, S, _, _, hs => by
    simp only [goS, Except.ok.injEq, Prod.mk.injEq] at hs
    obtain ⟨rfl, rfl⟩ := hs
    exact ⟨l, rfl, rfl, fun i h1 h2 _ => by omega, rfl, fun i hi _ => sameF_refl hi m0⟩
  | n + 1, k, l, m0, m1, S, hn, hb, hs => by
    simp only [goS] at hs
    cases ht : h.testBit k with
    | false =>
      rw [ht, if_neg (by simp)] at hs
      obtain ⟨rest, e, el, hg, hty, hsm⟩ := goS_read h n (k + 1) l m0 m1 S (by omega) hb hs
      refine ⟨rest, e, by simp only [encG, ht]; simpa using el, fun i h1 h2 h3 => ?_, hty, fun i hi hq => hsm i hi (fun hq2 => hq ⟨by omega, by omega, hq2.2.2⟩)⟩
      rcases Nat.lt_or_ge k i with h4 | h4
      · exact hg i (by omega) (by omega) h3
      · have : i = k := by omega
        rw [this, ht] at h3
        cases h3
    | true =>
      rw [ht, if_pos rfl] at hs
      split at hs
      · cases hs
      · rename_i m2 S2 h2
        obtain ⟨r1, rfl, g1, rfl, hset⟩ := field_read (by omega) hb h2
        obtain ⟨rest, e, el, hg, hty, hsm⟩ := goS_read h n (k + 1) r1 m2 m1 S (by omega) hb.right hs
        have hk1 : sameF k m1 m2 := hsm k (by omega) (by omega)
        refine ⟨rest, e, ?_, fun i h1 h2 h3 => ?_, ?_, fun i hi hq => ?_⟩
        · simp only [encG, ht, if_true]
          rw [List.append_assoc, ← el, encF_same (by omega) hk1]
        · by_cases hik : i = k
          · subst hik
            exact goodF_same (by omega) (sameF_symm (by omega) hk1) g1
          · exact hg i (by omega) (by omega) h3
        · rw [hty, hset]; exact setF_ty (by omega) m0 m2
        · by_cases hik : i = k
          · subst hik
            exact absurd ⟨Nat.le_refl _, by omega, ht⟩ hq
          · have h5 := hsm i hi (fun hq2 => hq ⟨by omega, by omega, hq2.2.2⟩)
            refine sameF_trans hi h5 ?_
            rw [hset]
            exact setF_else (by omega) hi hik m0 m2
theorem goS_short (h : Nat) : ∀ (n k : Nat) (l rest : List Int) (m m0 : Msg), n + k ≤ 13 → goodG h n k m → encG h n k m = l ++ rest → rest ≠ [] → goS h n k (.R l) m0 = .error 201
  | 0, k, l, rest, m, m0, _, _, he, hr => by
    have := congrArg List.length he
    simp only [encG, List.length_nil, List.length_append] at this
    exact absurd (List.eq_nil_of_length_eq_zero (by omega)) hr
  | n + 1, k, l, rest, m, m0, hn, hg, he, hr => by
    simp only [goS]
    simp only [encG] at he
    cases ht : h.testBit k with
    | false =>
      rw [ht, if_neg (by simp), List.nil_append] at he
      rw [if_neg (by simp)]
      exact goS_short h n (k + 1) l rest m m0 (by omega) (fun i h1 h2 h3 => hg i (by omega) (by omega) h3) he hr
    | true =>
      rw [ht, if_pos rfl] at he
      rw [if_pos rfl]
      have hgk := hg k (Nat.le_refl _) (by omega) ht
      rcases cut_split he hr with ⟨r1, hr1, h1⟩ | ⟨l1, rfl, h2⟩
      · rw [field_short (by omega) l r1 m m0 hgk h1 hr1]
      · rw [field_back (by omega) l1 m m0 hgk]
        exact goS_short h n (k + 1) l1 rest m _ (by omega) (fun i h1 h2 h3 => hg i (by omega) (by omega) h3) h2 hr

/-- A message's bytes. -/
def enc (m : Msg) : List Int := m.ty :: encG (hasB m.ty) 13 0 m
theorem good_fields {m : Msg} (h : GoodM m) (r : RgM m) : ∀ i, i < 13 → goodF i m := by
  intro k hk
  have hd : k = 0 ∨ k = 1 ∨ k = 2 ∨ k = 3 ∨ k = 4 ∨ k = 5 ∨ k = 6 ∨ k = 7 ∨ k = 8 ∨ k = 9 ∨ k = 10 ∨ k = 11 ∨ k = 12 := by omega
  rcases hd with rfl | rfl | rfl | rfl | rfl | rfl | rfl | rfl | rfl | rfl | rfl | rfl | rfl
  · exact r.view
  · exact r.normal
  · exact h.op
  · exact h.commit
  · exact ⟨h.log.1, fun x hx => by
      obtain ⟨a1, a2, a3, a4, a5⟩ := r.log.2 x hx
      exact ⟨⟨a1, a2⟩, ⟨a3, a4⟩, h.log.2 x hx, a5⟩⟩
  · exact r.client
  · exact r.seq
  · exact ⟨h.body, r.body.2⟩
  · exact r.key
  · exact r.shard
  · exact r.stripe
  · exact ⟨h.code.1, by have := h.code.2; show m.code < 256 ^ 2; omega⟩
  · exact ⟨h.blocks.1, fun x hx => ⟨h.blocks.2 x hx, r.blocks.2 x hx⟩⟩
theorem not_set {m : Msg} (hb : badF (setL m) (hasB m.ty) = false) : ∀ i, i < 13 → (hasB m.ty).testBit i = false → sameF i m (zM m.ty) := by
  intro k hk ht
  unfold badF at hb
  rw [List.any_eq_false] at hb
  have h1 := hb k (by simp; omega)
  rw [ht] at h1
  simp only [Bool.not_false, Bool.and_true] at h1
  have hd : k = 0 ∨ k = 1 ∨ k = 2 ∨ k = 3 ∨ k = 4 ∨ k = 5 ∨ k = 6 ∨ k = 7 ∨ k = 8 ∨ k = 9 ∨ k = 10 ∨ k = 11 ∨ k = 12 := by omega
  rcases hd with rfl | rfl | rfl | rfl | rfl | rfl | rfl | rfl | rfl | rfl | rfl | rfl | rfl <;> simp [setL] at h1 <;> exact h1
theorem set_bad {m : Msg} (hs : ∀ i, i < 13 → (hasB m.ty).testBit i = false → sameF i m (zM m.ty)) : badF (setL m) (hasB m.ty) = false := by
  unfold badF
  rw [List.any_eq_false]
  intro k _
  by_cases hk : k < 13
  · cases ht : (hasB m.ty).testBit k with
    | true => simp
    | false =>
      have h1 := hs k hk ht
      simp only [Bool.not_false, Bool.and_true]
      clear ht hs
      have hd : k = 0 ∨ k = 1 ∨ k = 2 ∨ k = 3 ∨ k = 4 ∨ k = 5 ∨ k = 6 ∨ k = 7 ∨ k = 8 ∨ k = 9 ∨ k = 10 ∨ k = 11 ∨ k = 12 := by omega
      rcases hd with rfl | rfl | rfl | rfl | rfl | rfl | rfl | rfl | rfl | rfl | rfl | rfl | rfl <;> simp only [sameF, zM] at h1 <;> simp [setL, h1]
  · have : (setL m).getD k false = false := by
      rw [List.getD_eq_getElem?_getD, List.getElem?_eq_none (by simp [setL]; omega)]
      rfl
    rw [this]
    simp
theorem pack_all {m : Msg} (h : GoodM m) (r : RgM m) : allS (.W [m.ty]) m = .ok (m, .W (enc m)) :=
  goS_lay _ 13 0 [m.ty] m (by omega) (fun i _ hi _ => good_fields h r i (by omega))
theorem enc_bytes {m : Msg} (h : GoodM m) (r : RgM m) : Byt (enc m) := by
  have key : ∀ (n k : Nat), n + k ≤ 13 → Byt (encG (hasB m.ty) n k m) := by
    intro n
    induction n with
    | zero => intro k _ x hx; cases hx
    | succ n ih =>
      intro k hk x hx
      simp only [encG] at hx
      rcases List.mem_append.1 hx with hx | hx
      · split at hx
        · exact field_bytes (by omega) (good_fields h r k (by omega)) x hx
        · cases hx
      · exact ih (k + 1) (by omega) x hx
  intro x hx
  rcases List.mem_cons.1 hx with rfl | hx
  · have := r.ty; omega
  · exact key 13 0 (by omega) x hx
theorem num1 (t : Int) (l : List Int) : numS (.R (t :: l)) 0 1 = .ok (t, .R l) := by
  simp [numS, step, val]
theorem parse_back {m : Msg} (h : GoodM m) (r : RgM m) (rest : List Int) : parseS (enc m ++ rest) = if 0 < rest.length then .error 6 else .ok m := by
  obtain ⟨m1, h1, h2, h3⟩ := goS_back (hasB m.ty) 13 0 rest m (zM m.ty) (by omega) (fun i _ hi _ => good_fields h r i (by omega))
  have e : m1 = m := by
    refine Msg.ext13 (h2.trans rfl) (fun i hi => ?_)
    cases ht : (hasB m.ty).testBit i with
    | true => exact (h3 i hi).1 ⟨Nat.zero_le _, by omega, ht⟩
    | false => exact sameF_trans hi ((h3 i hi).2 (by rw [ht]; simp)) (sameF_symm hi (not_set h.set i hi ht))
  rw [e] at h1
  have h4 : allS (.R (encG (hasB m.ty) 13 0 m ++ rest)) (zM m.ty) = .ok (m, .R rest) := h1
  unfold parseS enc
  rw [List.cons_append, num1]
  simp only [h4, leftS]
  rw [if_neg h.has]
  rfl
theorem parse_short {m : Msg} (h : GoodM m) (r : RgM m) (l rest : List Int) (he : enc m = l ++ rest) (hr : rest ≠ []) : parseS l = .error 201 := by
  unfold parseS
  cases l with
  | nil => rfl
  | cons t l =>
    simp only [enc, List.cons_append, List.cons.injEq] at he
    obtain ⟨rfl, he⟩ := he
    have h1 : allS (.R l) (zM m.ty) = .error 201 := goS_short (hasB m.ty) 13 0 l rest m (zM m.ty) (by omega) (fun i _ hi _ => good_fields h r i (by omega)) he hr
    rw [num1]
    simp only [h1]
    rw [if_neg h.has]
theorem parse_read {l : List Int} {m : Msg} (hb : Byt l) (h : parseS l = .ok m) : GoodM m ∧ RgM m ∧ l = enc m := by
  unfold parseS at h
  cases l with
  | nil => cases h
  | cons t l =>
    rw [num1] at h
    simp only at h
    split at h
    · cases h
    · rename_i hne
      split at h
      · cases h
      · rename_i m1 S2 h1
        obtain ⟨rest, rfl, el, hg, hty, hsm⟩ := goS_read (hasB t) 13 0 l (zM t) m1 S2 (by omega) (hb.right (a := [t])) h1
        by_cases hlen : 0 < leftS (.R rest)
        · rw [if_pos hlen] at h
          cases h
        · rw [if_neg hlen] at h
          simp only [Except.ok.injEq] at h
          subst h
          have hr0 : rest = [] := List.eq_nil_of_length_eq_zero (Nat.eq_zero_of_not_pos hlen)
          subst hr0
          rw [List.append_nil] at el
          have ht : m1.ty = t := hty
          have hz : ∀ i, i < 13 → (hasB t).testBit i = false → sameF i m1 (zM t) := fun i hi h2 => hsm i hi (by rw [h2]; simp)
          have hgood : ∀ i, i < 13 → goodF i m1 := fun i hi => by
            cases h2 : (hasB t).testBit i with
            | true => exact hg i (Nat.zero_le _) (by omega) h2
            | false => exact goodF_same hi (sameF_symm hi (hz i hi h2)) (zero_good hi t)
          have hset : badF (setL m1) (hasB m1.ty) = false := set_bad (by rw [ht]; exact hz)
          have g0 : 0 ≤ m1.view ∧ m1.view < 256 ^ 8 := hgood 0 (by omega)
          have g1 : 0 ≤ m1.normal ∧ m1.normal < 256 ^ 8 := hgood 1 (by omega)
          have g2 : 0 ≤ m1.op ∧ m1.op ≤ 64 := hgood 2 (by omega)
          have g3 : 0 ≤ m1.commit ∧ m1.commit ≤ 64 := hgood 3 (by omega)
          have g4 : goodL m1.log := hgood 4 (by omega)
          have g5 : 0 ≤ m1.client ∧ m1.client < 256 ^ 8 := hgood 5 (by omega)
          have g6 : 0 ≤ m1.seq ∧ m1.seq < 256 ^ 8 := hgood 6 (by omega)
          have g7 : goodT m1.body := hgood 7 (by omega)
          have g8 : 0 ≤ m1.key ∧ m1.key < 256 ^ 8 := hgood 8 (by omega)
          have g9 : 0 ≤ m1.shard ∧ m1.shard < 256 ^ 1 := hgood 9 (by omega)
          have g10 : 0 ≤ m1.stripe ∧ m1.stripe < 256 ^ 4 := hgood 10 (by omega)
          have g11 : 0 ≤ m1.code ∧ m1.code < 256 ^ 2 := hgood 11 (by omega)
          have g12 : goodBs m1.blocks := hgood 12 (by omega)
          have htb := hb t List.mem_cons_self
          refine ⟨⟨by rw [ht]; exact hne, hset, g2, g3, ⟨g11.1, by omega⟩, ⟨g4.1, fun x hx => (g4.2 x hx).2.2.1⟩, g7.1, ⟨g12.1, fun x hx => (g12.2 x hx).1⟩⟩,
            ⟨by omega, g0, g1, g5, g6, g8, g9, g10, ⟨by have := g4.1; omega, fun x hx => ?_⟩, ⟨by have := g7.1; omega, g7.2⟩, ⟨by have := g12.1; omega, fun x hx => (g12.2 x hx).2⟩⟩, by rw [enc, ht, ← el]⟩
          obtain ⟨a1, a2, a3⟩ := g4.2 x hx
          exact ⟨a1.1, a1.2, a2.1, a2.2, a3.2⟩
end Go.Proofs.Ytmjbdeoomohanaa.Mine
