/- Arguments opened by kinds: what the row's reader (DataW.trod) takes for a datum of a type is a value of that type's kind (Kd), each string and slice within the row's reach. -/
import Derived.Test.YtopehfjohifpnaaDoorWWords
import Derived.SizedLaws
import Derived.ChangeSlices
import Derived.ChangeArms
namespace Go.Proofs.YtopehfjohifpnaaDoor.Open
open Go.RowKit Go.ChangeShapes Go.WideShapes Go.Proofs.YtopehfjohifpnaaDoorW.PrintWords

def Reach (l : List Nat) : Prop := ∀ n, n ∈ l → n ≤ 140737488351232
theorem Reach.left {a b : List Nat} (h : Reach (a ++ b)) : Reach a := fun n hn => h n (List.mem_append_left _ hn)
theorem Reach.right {a b : List Nat} (h : Reach (a ++ b)) : Reach b := fun n hn => h n (List.mem_append_right _ hn)
theorem Reach.head {a : Nat} {b : List Nat} (h : Reach (a :: b)) : a ≤ 140737488351232 := h a List.mem_cons_self
theorem Reach.tail {a : Nat} {b : List Nat} (h : Reach (a :: b)) : Reach b := fun n hn => h n (List.mem_cons_of_mem _ hn)
theorem Reach.of_all {l : List Nat} (h : l.all (· ≤ reachBytes) = true) : Reach l := fun n hn => by
  have := of_decide_eq_true (List.all_eq_true.1 h n hn)
  unfold reachBytes at this
  omega

def Opn {α : Type} (P : Program) (t : TypeId) (d : Kd α) (B : α → Prop) : Prop :=
  ∀ {H : Type} (enc : TypeId × Value → H) (w : World) (fuel : Nat) (cs : List Value) (x : DataW H × List MemPlace),
    DataW.trod enc P w 0 (fun _ => true) true fuel t cs = some x → Reach (x.1.weights P t) → ∃ a, d.K w a cs ∧ B a

theorem opn_int {P : Program} {t : TypeId} {k : IntKind} (ht : P.underlying t = some (.int k)) : Opn P t (Kd.int k) (fun n => (Lit.int k n).wf = true) := by
  intro H enc w fuel cs x h _
  obtain ⟨n, rfl, rfl, hw⟩ := DataW.trod_int ht h
  exact ⟨n, rfl, hw⟩
theorem opn_bool {P : Program} {t : TypeId} (ht : P.underlying t = some .bool) : Opn P t Kd.bool (fun _ => True) := by
  intro H enc w fuel cs x h _
  obtain ⟨n, rfl, rfl⟩ := DataW.trod_bool ht h
  exact ⟨n, rfl, trivial⟩
theorem opn_string {P : Program} {t : TypeId} (ht : P.underlying t = some .string) : Opn P t Kd.string (fun s => s.size ≤ 140737488351232) := by
  intro H enc w fuel cs x h hr
  obtain ⟨n, rfl, rfl, hs⟩ := DataW.trod_string ht h
  refine ⟨n, rfl, ?_⟩
  simp only [DataW.weights] at hr
  have h1 := hr.head
  rw [Array.length_toList] at h1
  exact h1

theorem weightsAll_at {H : Type} {P : Program} {e : TypeId} : ∀ {l : List (DataW H)} {d : DataW H}, d ∈ l → Reach (DataW.weightsAll P e l) → Reach (d.weights P e)
  | x :: l, d, hd, h => by
    simp only [DataW.weightsAll] at h
    rcases List.mem_cons.1 hd with rfl | hd
    · exact h.left
    · exact weightsAll_at hd h.right

theorem cells_get {w : World} {a : Addr} {n : Nat} {cs : List Value} (h : w.cells? 0 a n = some cs) : cs.length = n ∧ ∀ j u, cs[j]? = some u → w.cell? (a.add j) = some u := by
  unfold World.cells? at h
  split at h
  · have hl := mapM_some_length h
    refine ⟨by simpa using hl, fun j u hu => ?_⟩
    have hj : j < cs.length := by
      rcases Nat.lt_or_ge j cs.length with h1 | h1
      · exact h1
      · rw [List.getElem?_eq_none h1] at hu; cases hu
    have := mapM_some_get h j j (by rw [List.getElem?_range (by have := hl; simp at this; omega)])
    rw [this]; exact hu
  · cases h

theorem opn_slice {α : Type} {P : Program} {t e : TypeId} {d : Kd α} {B : α → Prop} {b : Nat} (ht : P.underlying t = some (.slice e)) (hc : P.cellsOf e = d.sz) (hb : P.bytesOf e = b) (he : Opn P e d B) :
    Opn P t (Kd.slice e d) (fun l => l.length * b ≤ 140737488351232 ∧ l.length ≤ 9223372036854775807 ∧ ∀ a, a ∈ l → B a) := by
  intro H enc w fuel cs x h hr
  rcases DataW.trod_slice ht h with ⟨rfl, rfl⟩ | ⟨a, len, cap, elems, rest, n, rfl, rfl, rfl, _, hl, hm, hlen, hel, _, _⟩
  · exact ⟨[], ⟨none, 0, rfl, Nat.le_refl _, Kd.C_nil d w⟩, by simp, by simp, by simp⟩
  · simp only [DataW.weights, ht] at hr
    have hsum := hr.head
    have hall := hr.tail.left
    rw [hb] at hsum
    simp only [List.length_map] at hsum
    unfold maxLen at hm
    have hex : ∀ i, i < len → ∃ y c, d.K w y c ∧ B y ∧ c.length = d.sz ∧ ∀ j u, c[j]? = some u → w.cell? ((a.add (i * d.sz)).add j) = some u := by
      intro i hi
      have h1 := hel i hi
      have hi2 : i < elems.length := by omega
      rw [List.getElem?_eq_getElem hi2, Option.bind_eq_some_iff] at h1
      obtain ⟨c, hc1, hc2⟩ := h1
      rw [hc] at hc1
      obtain ⟨hcl, hcc⟩ := cells_get hc1
      obtain ⟨y, hy, hB⟩ := he enc w n c _ hc2 (weightsAll_at (List.mem_map.2 ⟨_, List.getElem_mem hi2, rfl⟩) hall)
      exact ⟨y, c, hy, hB, hcl, hcc⟩
    have hlist : ∀ m, m ≤ len → ∃ ys : List α, ys.length = m ∧ (∀ y, y ∈ ys → B y) ∧ ∀ i y, ys[i]? = some y → ∃ c, c.length = d.sz ∧ d.K w y c ∧ ∀ j u, c[j]? = some u → w.cell? (a.add (i * d.sz + j)) = some u := by
      intro m
      induction m with
      | zero => intro _; exact ⟨[], rfl, by simp, by simp⟩
      | succ m ih =>
        intro hm1
        obtain ⟨ys, h1, h2, h3⟩ := ih (by omega)
        obtain ⟨y, c, hy, hB, hcl, hcc⟩ := hex m (by omega)
        refine ⟨ys ++ [y], by simp [h1], ?_, ?_⟩
        · intro z hz
          rcases List.mem_append.1 hz with hz | hz
          · exact h2 z hz
          · rw [List.mem_singleton.1 hz]; exact hB
        · intro i z hz
          rcases Nat.lt_or_ge i ys.length with hi | hi
          · rw [List.getElem?_append_left hi] at hz
            exact h3 i z hz
          · rw [List.getElem?_append_right hi] at hz
            have hi0 : i - ys.length = 0 := by
              rcases Nat.eq_zero_or_pos (i - ys.length) with h0 | h0
              · exact h0
              · rw [List.getElem?_eq_none (by rw [List.length_singleton]; omega)] at hz; cases hz
            rw [hi0] at hz
            have hz' : y = z := by simpa using hz
            subst hz'
            obtain rfl : i = m := by omega
            refine ⟨c, hcl, hy, fun j u hu => ?_⟩
            have h4 := hcc j u hu
            have ha : (a.add (i * d.sz)).add j = a.add (i * d.sz + j) := by
              unfold Addr.add
              by_cases h1 : i * d.sz = 0 <;> by_cases h2 : j = 0 <;> simp [h1, h2, Nat.add_assoc]
            rwa [ha] at h4
    obtain ⟨ys, h1, h2, h3⟩ := hlist len (Nat.le_refl _)
    have hlb : len * b ≤ 140737488351232 := Nat.le_trans (Nat.mul_le_mul_right _ (by omega)) hsum
    refine ⟨ys, ⟨some a, cap, by rw [h1], by omega, ?_⟩, by rw [h1]; exact hlb, by omega, h2⟩
    exact ⟨rfl, by omega, fun _ => ⟨a, rfl, h3⟩⟩

/-- Fields in line, from cell 'off' on. -/
def OpnF {α : Type} (P : Program) (fs : List Field) (off : Nat) (d : Kd α) (B : α → Prop) : Prop :=
  ∀ {H : Type} (enc : TypeId × Value → H) (w : World) (n : Nat) (cs : List Value) (xs : List (DataW H × List MemPlace)),
    (∀ (i : Nat) (f : Field), fs[i]? = some f → DataW.trod enc P w 0 (fun _ => true) true n f.type ((cs.drop f.offset).take (P.cellsOf f.type)) = xs[i]?) → xs.length = fs.length →
    Reach (DataW.weightsEach P (fs.map (·.type)) (xs.map (·.1))) → cs.length = off + d.sz → ∃ a, d.K w a (cs.drop off) ∧ B a
theorem opnF_one {α : Type} {P : Program} {f : Field} {off : Nat} {d : Kd α} {B : α → Prop} (ho : f.offset = off) (hc : P.cellsOf f.type = d.sz) (h : Opn P f.type d B) : OpnF P [f] off d B := by
  intro H enc w n cs xs hx hl hr hcs
  match xs, hl with
  | [x], _ =>
    have h1 := hx 0 f rfl
    simp only [List.getElem?_cons_zero] at h1
    rw [ho, hc, List.take_of_length_le (by simp; omega)] at h1
    simp only [List.map_cons, List.map_nil, DataW.weightsEach] at hr
    exact h enc w n _ _ h1 hr.left
theorem opnF_cons {α β : Type} {P : Program} {f : Field} {fs : List Field} {off : Nat} {d1 : Kd α} {d2 : Kd β} {B1 : α → Prop} {B2 : β → Prop} (ho : f.offset = off) (hc : P.cellsOf f.type = d1.sz) (h : Opn P f.type d1 B1) (h2 : OpnF P fs (off + d1.sz) d2 B2) :
    OpnF P (f :: fs) off (Kd.pair d1 d2) (fun p => B1 p.1 ∧ B2 p.2) := by
  intro H enc w n cs xs hx hl hr hcs
  match xs, hl with
  | x :: xs, hl =>
    have h1 := hx 0 f rfl
    simp only [List.getElem?_cons_zero] at h1
    rw [ho, hc] at h1
    simp only [List.map_cons, DataW.weightsEach] at hr
    obtain ⟨a, ha, hB⟩ := h enc w n _ _ h1 hr.left
    have hsz : (Kd.pair d1 d2).sz = d1.sz + d2.sz := rfl
    obtain ⟨b, hb, hB2⟩ := h2 enc w n cs xs (fun i g hg => hx (i + 1) g hg) (by simpa using hl) hr.right (by omega)
    refine ⟨(a, b), ⟨_, _, ?_, ha, hb⟩, hB, hB2⟩
    rw [← List.drop_drop, List.take_append_drop]
theorem opn_struct {α : Type} {P : Program} {t : TypeId} {fs : Array Field} {d : Kd α} {B : α → Prop} (ht : P.underlying t = some (.struct fs)) (hc : P.cellsOf t = d.sz) (h : OpnF P fs.toList 0 d B) : Opn P t d B := by
  intro H enc w fuel cs x hx hr
  obtain ⟨xs, n, rfl, rfl, hl, hxl, hf⟩ := DataW.trod_struct ht hx
  simp only [DataW.weights, ht] at hr
  have := h enc w n cs xs (fun i f hg => hf i f (by simpa using hg)) (by simpa using hxl) hr (by omega)
  simpa using this
theorem opn_iso {α β : Type} {P : Program} {t : TypeId} {d : Kd α} {B : α → Prop} (f : β → α) (g : α → β) (hfg : ∀ a, f (g a) = a) (h : Opn P t d B) : Opn P t (Kd.iso d f) (fun b => B (f b)) := by
  intro H enc w fuel cs x hx hr
  obtain ⟨a, ha, hB⟩ := h enc w fuel cs x hx hr
  exact ⟨g a, by show d.K w (f (g a)) cs; rw [hfg]; exact ha, by show B (f (g a)); rw [hfg]; exact hB⟩

/-- An argument that is a slice. -/
theorem Opn.arg_slice {α H : Type} {P : Program} {t e : TypeId} {d : Kd α} {B : List α → Prop} (h : Opn P t (Kd.slice e d) B) {enc : TypeId × Value → H} {w : World} {A : Option Addr} {n c : Nat} {x : DataW H} {ps : List MemPlace}
    (hx : DataW.Trod enc P w 0 (fun _ => true) true t (.slice A n c) x ps) (hr : Reach (x.weights P t)) : ∃ l : List α, l.length = n ∧ l.length ≤ c ∧ d.C w A l.length l ∧ B l := by
  obtain ⟨fuel, hf⟩ := hx
  obtain ⟨l, ⟨A', c', he, hl, hC⟩, hB⟩ := h enc w fuel _ _ hf hr
  simp only [Value.cells, List.cons.injEq, and_true, Value.slice.injEq] at he
  obtain ⟨rfl, rfl, rfl⟩ := he
  exact ⟨l, rfl, hl, hC, hB⟩
/-- An argument that is a struct. -/
theorem Opn.arg_agg {α H : Type} {P : Program} {t : TypeId} {d : Kd α} {B : α → Prop} (h : Opn P t d B) {enc : TypeId × Value → H} {w : World} {cs : Array Value} {x : DataW H} {ps : List MemPlace}
    (hx : DataW.Trod enc P w 0 (fun _ => true) true t (.agg cs) x ps) (hr : Reach (x.weights P t)) : ∃ a : α, d.K w a cs.toList ∧ B a := by
  obtain ⟨fuel, hf⟩ := hx
  exact h enc w fuel _ _ hf hr
theorem arg_str {H : Type} {P : Program} {t : TypeId} (ht : P.underlying t = some .string) {enc : TypeId × Value → H} {w : World} {s : ByteArray} {x : DataW H} {ps : List MemPlace}
    (hx : DataW.Trod enc P w 0 (fun _ => true) true t (.string s) x ps) (hr : Reach (x.weights P t)) : s.size ≤ 140737488351232 := by
  obtain ⟨fuel, hf⟩ := hx
  obtain ⟨s', e1, hB⟩ := opn_string ht enc w fuel _ _ hf hr
  have e2 : [Value.string s] = [Value.string s'] := e1
  simp only [List.cons.injEq, Value.string.injEq, and_true] at e2
  subst e2
  exact hB
/-- The reach of each argument. -/
theorem reach_each {H : Type} {P : Program} : ∀ {ts : List TypeId} {ds : List (DataW H)} {j : Nat} {t : TypeId} {x : DataW H}, Reach (DataW.weightsEach P ts ds) → ts[j]? = some t → ds[j]? = some x → Reach (x.weights P t)
  | t0 :: ts, d0 :: ds, 0, t, x, h, ht, hx => by
    simp only [List.getElem?_cons_zero, Option.some.injEq] at ht hx
    subst ht hx
    simp only [DataW.weightsEach] at h
    exact h.left
  | t0 :: ts, d0 :: ds, j + 1, t, x, h, ht, hx => by
    simp only [List.getElem?_cons_succ] at ht hx
    simp only [DataW.weightsEach] at h
    exact reach_each h.right ht hx
  | [], _, j, t, x, _, ht, _ => by simp at ht
  | _ :: _, [], j, t, x, _, _, hx => by simp at hx
end Go.Proofs.YtopehfjohifpnaaDoor.Open
