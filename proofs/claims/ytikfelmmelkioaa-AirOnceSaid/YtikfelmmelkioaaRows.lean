/-
  No cell of these rows narrows 'for every input' (looked for: loops, veiled, ifaces, maps, wideKeys, modest, calm, conditions, laid).
  DERIVED. THE GIVEN ROWS OF THIS SEAT. 3 by the template 'for every input the law returns true; each argument reads behind the call as it read before'; 0 by the template 'total and deterministic' (their statements: YtikfelmmelkioaaTotals.lean).
  GIVEN WITH THE SEED: the statements are not yours to turn. If you find one false, say at which input.
  Laid BY PROGRAM, IN A SANDBOX (cutbox-rows.mjs): the forced cells as the released guide's own fill.sh prints them over the translation f8584e7fe2933d57… (all of the seat's roots in one cut). By AI agents, Wed Nov 11 2026. No macro, syntax, notation, axiom, sorry.
-/
import Derived.Test.YtikfelmmelkioaaChecked
import GoSem.Claim
import GoSem.ClaimJoined
import GoSem.ClaimMapViews
import Derived.JoinedTies
import Derived.KernelRfl
namespace Go.Proofs.Ytikfelmmelkioaa
/- THE CELL 'sum', in the pinned program and in every row, IS THE sha256 OF THE DUMP (.gsa) THAT YtikfelmmelkioaaProg.lean LOADS. Nothing in Lean hashes anything: it is a label: what it is worth is what the hold of that sum in a sandbox is worth. -/
noncomputable def Try.pinned : Pinned := { name := "ytikfelmmelkioaa", sum := "f8584e7fe2933d576373dafff1e56b4a3ea4fb00f7deeacbce4db5079f29575f", checked := Try.checked }
namespace Rows
def none {H : Type} : Left H := { results := [], args := [] }

/-- 'tabularylaw19.AirNil': WHATEVER THE INPUT: true; the input reads as it did. -/
def airNilSpec : ChangeSpec := { name := "airNil", fn := fun _ => fun
  | [d] => { results := [.lit (.bool true)], args := [d] }
  | _ => none }
def airNilRow : OpenClaim := { program := "ytikfelmmelkioaa", sum := "f8584e7fe2933d576373dafff1e56b4a3ea4fb00f7deeacbce4db5079f29575f", func := "tabulary/tabularylaw19.AirNil", spec := "airNil", unfollowed := true, recurses := true, plainKeys := false, apart := false }
def AirNilSaid : Prop := airNilRow.holds Try.pinned (OpenSpec.ofChange airNilSpec)

/-- ITS FALSE NEIGHBOUR: 'it returns false'. Refute it at one input. -/
def airNilWrong : ChangeSpec := { name := "airNil", fn := fun _ => fun
  | [d] => { results := [.lit (.bool false)], args := [d] }
  | _ => none }
def AirNilWrongFalsely : Prop := airNilRow.holds Try.pinned (OpenSpec.ofChange airNilWrong)

/-- 'tabularylaw19.AirFull': WHATEVER THE INPUT: true; the input reads as it did. -/
def airFullSpec : ChangeSpec := { name := "airFull", fn := fun _ => fun
  | [d1, d2] => { results := [.lit (.bool true)], args := [d1, d2] }
  | _ => none }
def airFullRow : OpenClaim := { program := "ytikfelmmelkioaa", sum := "f8584e7fe2933d576373dafff1e56b4a3ea4fb00f7deeacbce4db5079f29575f", func := "tabulary/tabularylaw19.AirFull", spec := "airFull", unfollowed := true, recurses := true, plainKeys := false, apart := false }
def AirFullSaid : Prop := airFullRow.holds Try.pinned (OpenSpec.ofChange airFullSpec)

/-- ITS FALSE NEIGHBOUR: 'it returns false'. Refute it at one input. -/
def airFullWrong : ChangeSpec := { name := "airFull", fn := fun _ => fun
  | [d1, d2] => { results := [.lit (.bool false)], args := [d1, d2] }
  | _ => none }
def AirFullWrongFalsely : Prop := airFullRow.holds Try.pinned (OpenSpec.ofChange airFullWrong)

/-- 'tabularylaw19.AirOnce': WHATEVER THE INPUT: true; the input reads as it did. -/
def airOnceSpec : ChangeSpec := { name := "airOnce", fn := fun _ => fun
  | [d] => { results := [.lit (.bool true)], args := [d] }
  | _ => none }
def airOnceRow : OpenClaim := { program := "ytikfelmmelkioaa", sum := "f8584e7fe2933d576373dafff1e56b4a3ea4fb00f7deeacbce4db5079f29575f", func := "tabulary/tabularylaw19.AirOnce", spec := "airOnce", unfollowed := true, recurses := true, plainKeys := false, apart := false }
def AirOnceSaid : Prop := airOnceRow.holds Try.pinned (OpenSpec.ofChange airOnceSpec)

/-- ITS FALSE NEIGHBOUR: 'it returns false'. Refute it at one input. -/
def airOnceWrong : ChangeSpec := { name := "airOnce", fn := fun _ => fun
  | [d] => { results := [.lit (.bool false)], args := [d] }
  | _ => none }
def AirOnceWrongFalsely : Prop := airOnceRow.holds Try.pinned (OpenSpec.ofChange airOnceWrong)

/- THE SECOND FORM. 'bulk': how many values and letters a reading holds, each counted each time it is reached (what is shared counts as often as it is met; a slice's spare places count too). A statement '..UptoSaid' is the law's where the arguments, and the package variables that the reading takes, are together of bulk at most 1048576: NARROWER than '..Said'. Prove '..Said' where nothing that the law and all that it calls make is longer than what came in: it says more and counts as full. Else prove '..UptoSaid'. A law counts once. -/
mutual
def uptoBulk {H : Type} : DataW H → Nat
  | .lit (.string bytes) => bytes.length + 1
  | .lit _ => 1
  | .nil => 1
  | .ptr d => uptoBulk d + 1
  | .slice elems spare => uptoBulkAll elems + uptoBulkAll spare + 1
  | .agg parts => uptoBulkAll parts + 1
  | .iface _ d => uptoBulk d + 1
  | .map entries => uptoBulkEntries entries + 1
  | .held _ => 1
def uptoBulkAll {H : Type} : List (DataW H) → Nat
  | [] => 0
  | d :: r => uptoBulk d + uptoBulkAll r
def uptoBulkEntries {H : Type} : List (Lit × DataW H) → Nat
  | [] => 0
  | x :: r => uptoBulkEntry x + uptoBulkEntries r
def uptoBulkEntry {H : Type} : Lit × DataW H → Nat
  | (.string bytes, d) => bytes.length + uptoBulk d + 1
  | (_, d) => uptoBulk d + 1
 end
def uptoSmall : (H : Type) → List (DataW H) → Bool := fun _ ds => decide (uptoBulkAll ds ≤ 1048576)
def OpenSpec.upto (s : _root_.Go.ChangeSpec) : _root_.Go.OpenSpec := { _root_.Go.OpenSpec.ofChange s with cond := some uptoSmall }

/-- 'tabularylaw19.AirNil', WHERE WHAT IT READS IS OF BULK AT MOST 1048576: true; the input reads as it did. -/
def airNilUptoRow : OpenClaim := { program := "ytikfelmmelkioaa", sum := "f8584e7fe2933d576373dafff1e56b4a3ea4fb00f7deeacbce4db5079f29575f", func := "tabulary/tabularylaw19.AirNil", spec := "airNil", unfollowed := true, recurses := true, plainKeys := false, apart := false, narrowed := true }
def AirNilUptoSaid : Prop := airNilUptoRow.holds Try.pinned (OpenSpec.upto airNilSpec)

/-- 'tabularylaw19.AirFull', WHERE WHAT IT READS IS OF BULK AT MOST 1048576: true; the input reads as it did. -/
def airFullUptoRow : OpenClaim := { program := "ytikfelmmelkioaa", sum := "f8584e7fe2933d576373dafff1e56b4a3ea4fb00f7deeacbce4db5079f29575f", func := "tabulary/tabularylaw19.AirFull", spec := "airFull", unfollowed := true, recurses := true, plainKeys := false, apart := false, narrowed := true }
def AirFullUptoSaid : Prop := airFullUptoRow.holds Try.pinned (OpenSpec.upto airFullSpec)

/-- 'tabularylaw19.AirOnce', WHERE WHAT IT READS IS OF BULK AT MOST 1048576: true; the input reads as it did. -/
def airOnceUptoRow : OpenClaim := { program := "ytikfelmmelkioaa", sum := "f8584e7fe2933d576373dafff1e56b4a3ea4fb00f7deeacbce4db5079f29575f", func := "tabulary/tabularylaw19.AirOnce", spec := "airOnce", unfollowed := true, recurses := true, plainKeys := false, apart := false, narrowed := true }
def AirOnceUptoSaid : Prop := airOnceUptoRow.holds Try.pinned (OpenSpec.upto airOnceSpec)

end Rows
end Go.Proofs.Ytikfelmmelkioaa
