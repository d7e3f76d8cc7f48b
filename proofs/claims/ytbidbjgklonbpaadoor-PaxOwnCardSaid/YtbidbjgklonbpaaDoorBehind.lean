/- A region that draws its order, whose operations only read and whose callees only make memory: one walk in the order of the text. -/
import Derived.Test.YtbidbjgklonbpaaDoorTurn
import Derived.BigQuiet
namespace Go.Proofs.YtbidbjgklonbpaaDoor.Turn
open Go.RowKit Go.Proofs.YtbidbjgklonbpaaDoorW.PrintWords

/-- A world in which w's blocks are as they were. -/
structure Behind (w : World) where
  W : World
  below : Below w.heap.size w W
instance (w : World) : Nonempty (Behind w) := ⟨⟨w, Below.refl _ w⟩⟩
def later (w : World) (x : Behind w) : World := x.W
theorem later_below {w : World} (x : Behind w) : Below w.heap.size w (later w x) := x.below
theorem wp_region_behind {P : Program} {id : Nat} {Q : Exit → Act → World → Prop} {a : Act} {w : World} {l : List Oper} (hm : P.follows .mixedOrders = true) (hB : Region.lexB .any l.toArray = true)
    (h : wpQuiet P l.toArray (fun w' => ∃ x : Behind w, w' = later w x) (fun a' => ∀ w', (∃ x : Behind w, w' = later w x) → Q .normal a' w') l a) : (Code.region id l.toArray true).wp P Q a w :=
  wp_region_quiet (C := fun w' => ∃ x : Behind w, w' = later w x) hm hB ⟨⟨_, below_drew (Below.refl _ w)⟩, rfl⟩ (by simpa using h)
theorem calls_behind {P : Program} {f : FuncId} {args : Array Value} {w : World} {v : Value} (x : Behind w) (h : Calls P f args (later w x) fun e w' => e = .returned v ∧ Below (later w x).heap.size (later w x) w') :
    Calls P f args (later w x) fun e w'' => e = .returned v ∧ ∃ y : Behind w, w'' = later w y :=
  h.mono fun _ w' ⟨he, hb⟩ => ⟨he, ⟨w', below_step x.below hb⟩, rfl⟩
theorem later_cell {w : World} {a : Addr} {v : Value} (h : w.cell? a = some v) (x : Behind w) : (later w x).cell? a = some v := pw_cell_below x.below h
theorem later_blk {w : World} {b : Nat} {cs : Array Value} {t : TypeId} (h : Blk w b cs t) (x : Behind w) : Blk (later w x) b cs t := (x.below.block b h.lt).trans h
theorem later_C {α : Type} {d : Kd α} {w : World} {A : Option Addr} {n : Nat} {xs : List α} (h : d.C w A n xs) (x : Behind w) : d.C (later w x) A n xs := Kd.C_below h x.below
end Go.Proofs.YtbidbjgklonbpaaDoor.Turn
