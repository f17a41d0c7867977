/-
  No cell of these rows narrows 'for every input' (looked for: loops, veiled, ifaces, maps, wideKeys, modest, calm, conditions, laid).
  DERIVED. THE GIVEN ROWS OF THIS SEAT. 3 by the template 'for every input the law returns true; each argument reads behind the call as it read before'; 0 by the template 'total and deterministic' (their statements: YtnjgfhgpicmklaaTotals.lean).
  GIVEN WITH THE SEED: the statements are not yours to turn. If you find one false, say at which input.
  Laid BY PROGRAM, IN A SANDBOX (cutbox-rows.mjs): the forced cells as the released guide's own fill.sh prints them over the translation 1101765a931d6066… (all of the seat's roots in one cut). By AI agents, Wed Nov 11 2026. No macro, syntax, notation, axiom, sorry.
-/
import Derived.Test.YtnjgfhgpicmklaaChecked
import GoSem.Claim
import GoSem.ClaimJoined
import GoSem.ClaimMapViews
import Derived.JoinedTies
import Derived.KernelRfl
namespace Go.Proofs.Ytnjgfhgpicmklaa
/- THE CELL 'sum', in the pinned program and in every row, IS THE sha256 OF THE DUMP (.gsa) THAT YtnjgfhgpicmklaaProg.lean LOADS. Nothing in Lean hashes anything: it is a label: what it is worth is what the hold of that sum in a sandbox is worth. -/
noncomputable def Try.pinned : Pinned := { name := "ytnjgfhgpicmklaa", sum := "1101765a931d6066f188ead42ab746affc553d302705a1fbd15d263877388b3b", checked := Try.checked }
namespace Rows
def none {H : Type} : Left H := { results := [], args := [] }

/-- 'pelotonlaw43.DifferFinds': WHATEVER THE INPUT: true; the input reads as it did. -/
def differFindsSpec : ChangeSpec := { name := "differFinds", fn := fun _ => fun
  | [d1, d2] => { results := [.lit (.bool true)], args := [d1, d2] }
  | _ => none }
def differFindsRow : OpenClaim := { program := "ytnjgfhgpicmklaa", sum := "1101765a931d6066f188ead42ab746affc553d302705a1fbd15d263877388b3b", func := "peloton/pelotonlaw43.DifferFinds", spec := "differFinds", unfollowed := true, recurses := true, apart := false }
def DifferFindsSaid : Prop := differFindsRow.holds Try.pinned (OpenSpec.ofChange differFindsSpec)

/-- ITS FALSE NEIGHBOUR: 'it returns false'. Refute it at one input. -/
def differFindsWrong : ChangeSpec := { name := "differFinds", fn := fun _ => fun
  | [d1, d2] => { results := [.lit (.bool false)], args := [d1, d2] }
  | _ => none }
def DifferFindsWrongFalsely : Prop := differFindsRow.holds Try.pinned (OpenSpec.ofChange differFindsWrong)

/-- 'pelotonlaw37.OrderNames': WHATEVER THE INPUT: true; the input reads as it did. -/
def orderNamesSpec : ChangeSpec := { name := "orderNames", fn := fun _ => fun
  | [] => { results := [.lit (.bool true)], args := [] }
  | _ => none }
def orderNamesRow : OpenClaim := { program := "ytnjgfhgpicmklaa", sum := "1101765a931d6066f188ead42ab746affc553d302705a1fbd15d263877388b3b", func := "peloton/pelotonlaw37.OrderNames", spec := "orderNames", inPlace := ["slices.overlaps[peloton/api.Point]"], unfollowed := true, recurses := true, apart := false }
def OrderNamesSaid : Prop := orderNamesRow.holds Try.pinned (OpenSpec.ofChange orderNamesSpec)

/-- ITS FALSE NEIGHBOUR: 'it returns false'. Refute it at one input. -/
def orderNamesWrong : ChangeSpec := { name := "orderNames", fn := fun _ => fun
  | [] => { results := [.lit (.bool false)], args := [] }
  | _ => none }
def OrderNamesWrongFalsely : Prop := orderNamesRow.holds Try.pinned (OpenSpec.ofChange orderNamesWrong)

/-- 'pelotonlaw37.OrderFree': WHATEVER THE INPUT: true; the input reads as it did. -/
def orderFreeSpec : ChangeSpec := { name := "orderFree", fn := fun _ => fun
  | [d1, d2] => { results := [.lit (.bool true)], args := [d1, d2] }
  | _ => none }
def orderFreeRow : OpenClaim := { program := "ytnjgfhgpicmklaa", sum := "1101765a931d6066f188ead42ab746affc553d302705a1fbd15d263877388b3b", func := "peloton/pelotonlaw37.OrderFree", spec := "orderFree", inPlace := ["slices.overlaps[peloton/api.Point]"], unfollowed := true, recurses := true, apart := false }
def OrderFreeSaid : Prop := orderFreeRow.holds Try.pinned (OpenSpec.ofChange orderFreeSpec)

/-- ITS FALSE NEIGHBOUR: 'it returns false'. Refute it at one input. -/
def orderFreeWrong : ChangeSpec := { name := "orderFree", fn := fun _ => fun
  | [d1, d2] => { results := [.lit (.bool false)], args := [d1, d2] }
  | _ => none }
def OrderFreeWrongFalsely : Prop := orderFreeRow.holds Try.pinned (OpenSpec.ofChange orderFreeWrong)

/- THE SECOND FORM. 'bulk': how many values and letters a reading holds, each counted each time it is reached (what is shared counts as often as it is met; a slice's spare places count too). A statement '..UptoSaid' is the law's where the arguments, and the package variables that the reading takes, are together of bulk at most 1048576: NARROWER than '..Said'. Prove '..Said' where nothing that the law and all that it calls make is longer than what came in: it says more and counts as full. Else prove '..UptoSaid'. A law counts once. -/
mutual
def uptoBulk {H : Type} : DataW H → Nat
  | .lit (.string bytes) => bytes.length + 1
  | .lit _ => 1
  | .nil => 1
  | .ptr d => uptoBulk d + 1
  | .slice elems spare => uptoBulkAll elems + uptoBulkAll spare + 1
  | .agg parts => uptoBulkAll parts + 1
  | .iface _ d => uptoBulk d + 1
  | .map entries => uptoBulkEntries entries + 1
  | .held _ => 1
def uptoBulkAll {H : Type} : List (DataW H) → Nat
  | [] => 0
  | d :: r => uptoBulk d + uptoBulkAll r
def uptoBulkEntries {H : Type} : List (Lit × DataW H) → Nat
  | [] => 0
  | x :: r => uptoBulkEntry x + uptoBulkEntries r
def uptoBulkEntry {H : Type} : Lit × DataW H → Nat
  | (.string bytes, d) => bytes.length + uptoBulk d + 1
  | (_, d) => uptoBulk d + 1
 end
def uptoSmall : (H : Type) → List (DataW H) → Bool := fun _ ds => decide (uptoBulkAll ds ≤ 1048576)
def OpenSpec.upto (s : _root_.Go.ChangeSpec) : _root_.Go.OpenSpec := { _root_.Go.OpenSpec.ofChange s with cond := some uptoSmall }

/-- 'pelotonlaw43.DifferFinds', WHERE WHAT IT READS IS OF BULK AT MOST 1048576: true; the input reads as it did. -/
def differFindsUptoRow : OpenClaim := { program := "ytnjgfhgpicmklaa", sum := "1101765a931d6066f188ead42ab746affc553d302705a1fbd15d263877388b3b", func := "peloton/pelotonlaw43.DifferFinds", spec := "differFinds", unfollowed := true, recurses := true, apart := false, narrowed := true }
def DifferFindsUptoSaid : Prop := differFindsUptoRow.holds Try.pinned (OpenSpec.upto differFindsSpec)

/-- 'pelotonlaw37.OrderNames', WHERE WHAT IT READS IS OF BULK AT MOST 1048576: true; the input reads as it did. -/
def orderNamesUptoRow : OpenClaim := { program := "ytnjgfhgpicmklaa", sum := "1101765a931d6066f188ead42ab746affc553d302705a1fbd15d263877388b3b", func := "peloton/pelotonlaw37.OrderNames", spec := "orderNames", inPlace := ["slices.overlaps[peloton/api.Point]"], unfollowed := true, recurses := true, apart := false, narrowed := true }
def OrderNamesUptoSaid : Prop := orderNamesUptoRow.holds Try.pinned (OpenSpec.upto orderNamesSpec)

/-- 'pelotonlaw37.OrderFree', WHERE WHAT IT READS IS OF BULK AT MOST 1048576: true; the input reads as it did. -/
def orderFreeUptoRow : OpenClaim := { program := "ytnjgfhgpicmklaa", sum := "1101765a931d6066f188ead42ab746affc553d302705a1fbd15d263877388b3b", func := "peloton/pelotonlaw37.OrderFree", spec := "orderFree", inPlace := ["slices.overlaps[peloton/api.Point]"], unfollowed := true, recurses := true, apart := false, narrowed := true }
def OrderFreeUptoSaid : Prop := orderFreeUptoRow.holds Try.pinned (OpenSpec.upto orderFreeSpec)

end Rows
end Go.Proofs.Ytnjgfhgpicmklaa
