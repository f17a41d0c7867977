/-
  No cell of these rows narrows 'for every input' (looked for: loops, veiled, ifaces, maps, wideKeys, modest, calm, conditions, laid).
  DERIVED. THE GIVEN ROWS OF THIS SEAT. 11 by the template 'for every input the law returns true; each argument reads behind the call as it read before'; 0 by the template 'total and deterministic' (their statements: YtepmgbmnghiaoaaGreatTotals.lean).
  GIVEN WITH THE SEED: the statements are not yours to turn. If you find one false, say at which input.
  Laid BY PROGRAM, IN A SANDBOX (cutbox-rows.mjs): the forced cells as the released guide's own fill.sh prints them over the translation 9cedf105573ca5c8… (all of the seat's roots in one cut). By AI agents, Wed Nov 11 2026. No macro, syntax, notation, axiom, sorry.
-/
import Derived.Test.YtepmgbmnghiaoaaGreatChecked
import GoSem.Claim
import GoSem.ClaimJoined
import GoSem.ClaimMapViews
import Derived.JoinedTies
import Derived.KernelRfl
namespace Go.Proofs.YtepmgbmnghiaoaaGreat
/- THE CELL 'sum', in the pinned program and in every row, IS THE sha256 OF THE DUMP (.gsa) THAT YtepmgbmnghiaoaaGreatProg.lean LOADS. Nothing in Lean hashes anything: it is a label: what it is worth is what the hold of that sum in a sandbox is worth. -/
noncomputable def Tryz.pinned : Pinned := { name := "ytepmgbmnghiaoaagreat", sum := "9cedf105573ca5c8a84cb7c9ecef813e3f5946f36be411f88160f4772787316b", checked := Tryz.checked }
namespace Rows
def none {H : Type} : Left H := { results := [], args := [] }

/-- 'pelotonlaw37.OrderTells': WHATEVER THE INPUT: true; the input reads as it did. -/
def orderTellsSpec : ChangeSpec := { name := "orderTells", fn := fun _ => fun
  | [d1, d2, d3] => { results := [.lit (.bool true)], args := [d1, d2, d3] }
  | _ => none }
def orderTellsRow : OpenClaim := { program := "ytepmgbmnghiaoaagreat", sum := "9cedf105573ca5c8a84cb7c9ecef813e3f5946f36be411f88160f4772787316b", func := "peloton/pelotonlaw37.OrderTells", spec := "orderTells", inPlace := ["slices.overlaps[peloton/api.Point]"], unfollowed := true, recurses := true, apart := false }
def OrderTellsSaid : Prop := orderTellsRow.holds Tryz.pinned (OpenSpec.ofChange orderTellsSpec)

/-- ITS FALSE NEIGHBOUR: 'it returns false'. Refute it at one input. -/
def orderTellsWrong : ChangeSpec := { name := "orderTells", fn := fun _ => fun
  | [d1, d2, d3] => { results := [.lit (.bool false)], args := [d1, d2, d3] }
  | _ => none }
def OrderTellsWrongFalsely : Prop := orderTellsRow.holds Tryz.pinned (OpenSpec.ofChange orderTellsWrong)

/-- 'pelotonlaw43.DifferReplies': WHATEVER THE INPUT: true; the input reads as it did. -/
def differRepliesSpec : ChangeSpec := { name := "differReplies", fn := fun _ => fun
  | [d1, d2, d3] => { results := [.lit (.bool true)], args := [d1, d2, d3] }
  | _ => none }
def differRepliesRow : OpenClaim := { program := "ytepmgbmnghiaoaagreat", sum := "9cedf105573ca5c8a84cb7c9ecef813e3f5946f36be411f88160f4772787316b", func := "peloton/pelotonlaw43.DifferReplies", spec := "differReplies", inPlace := ["slices.overlaps[peloton/api.Point]", "math/bits.Add64", "math/bits.Sub64"], unfollowed := true, recurses := true, named := ["math/bits.divideError", "math/bits.overflowError"], apart := false }
def DifferRepliesSaid : Prop := differRepliesRow.holds Tryz.pinned (OpenSpec.ofChange differRepliesSpec)

/-- ITS FALSE NEIGHBOUR: 'it returns false'. Refute it at one input. -/
def differRepliesWrong : ChangeSpec := { name := "differReplies", fn := fun _ => fun
  | [d1, d2, d3] => { results := [.lit (.bool false)], args := [d1, d2, d3] }
  | _ => none }
def DifferRepliesWrongFalsely : Prop := differRepliesRow.holds Tryz.pinned (OpenSpec.ofChange differRepliesWrong)

/-- 'pelotonlaw42.LedgerTells': WHATEVER THE INPUT: true; the input reads as it did. -/
def ledgerTellsSpec : ChangeSpec := { name := "ledgerTells", fn := fun _ => fun
  | [d1, d2, d3] => { results := [.lit (.bool true)], args := [d1, d2, d3] }
  | _ => none }
def ledgerTellsRow : OpenClaim := { program := "ytepmgbmnghiaoaagreat", sum := "9cedf105573ca5c8a84cb7c9ecef813e3f5946f36be411f88160f4772787316b", func := "peloton/pelotonlaw42.LedgerTells", spec := "ledgerTells", inPlace := ["slices.overlaps[peloton/api.Point]", "math/bits.Add64", "math/bits.Sub64"], unfollowed := true, recurses := true, named := ["math/bits.divideError", "math/bits.overflowError"], apart := false }
def LedgerTellsSaid : Prop := ledgerTellsRow.holds Tryz.pinned (OpenSpec.ofChange ledgerTellsSpec)

/-- ITS FALSE NEIGHBOUR: 'it returns false'. Refute it at one input. -/
def ledgerTellsWrong : ChangeSpec := { name := "ledgerTells", fn := fun _ => fun
  | [d1, d2, d3] => { results := [.lit (.bool false)], args := [d1, d2, d3] }
  | _ => none }
def LedgerTellsWrongFalsely : Prop := ledgerTellsRow.holds Tryz.pinned (OpenSpec.ofChange ledgerTellsWrong)

/-- 'pelotonlaw42.LedgerReplays': WHATEVER THE INPUT: true; the input reads as it did. -/
def ledgerReplaysSpec : ChangeSpec := { name := "ledgerReplays", fn := fun _ => fun
  | [d1, d2] => { results := [.lit (.bool true)], args := [d1, d2] }
  | _ => none }
def ledgerReplaysRow : OpenClaim := { program := "ytepmgbmnghiaoaagreat", sum := "9cedf105573ca5c8a84cb7c9ecef813e3f5946f36be411f88160f4772787316b", func := "peloton/pelotonlaw42.LedgerReplays", spec := "ledgerReplays", inPlace := ["slices.overlaps[peloton/api.Point]", "math/bits.Add64", "math/bits.Sub64"], unfollowed := true, recurses := true, named := ["math/bits.divideError", "math/bits.overflowError"], apart := false }
def LedgerReplaysSaid : Prop := ledgerReplaysRow.holds Tryz.pinned (OpenSpec.ofChange ledgerReplaysSpec)

/-- ITS FALSE NEIGHBOUR: 'it returns false'. Refute it at one input. -/
def ledgerReplaysWrong : ChangeSpec := { name := "ledgerReplays", fn := fun _ => fun
  | [d1, d2] => { results := [.lit (.bool false)], args := [d1, d2] }
  | _ => none }
def LedgerReplaysWrongFalsely : Prop := ledgerReplaysRow.holds Tryz.pinned (OpenSpec.ofChange ledgerReplaysWrong)

/-- 'pelotonlaw42.LedgerWrong': WHATEVER THE INPUT: true; the input reads as it did. -/
def ledgerWrongSpec : ChangeSpec := { name := "ledgerWrong", fn := fun _ => fun
  | [d1, d2, d3, d4] => { results := [.lit (.bool true)], args := [d1, d2, d3, d4] }
  | _ => none }
def ledgerWrongRow : OpenClaim := { program := "ytepmgbmnghiaoaagreat", sum := "9cedf105573ca5c8a84cb7c9ecef813e3f5946f36be411f88160f4772787316b", func := "peloton/pelotonlaw42.LedgerWrong", spec := "ledgerWrong", inPlace := ["slices.overlaps[peloton/api.Point]", "math/bits.Add64", "math/bits.Sub64"], unfollowed := true, recurses := true, named := ["math/bits.divideError", "math/bits.overflowError"], apart := false }
def LedgerWrongSaid : Prop := ledgerWrongRow.holds Tryz.pinned (OpenSpec.ofChange ledgerWrongSpec)

/-- ITS FALSE NEIGHBOUR: 'it returns false'. Refute it at one input. -/
def ledgerWrongWrong : ChangeSpec := { name := "ledgerWrong", fn := fun _ => fun
  | [d1, d2, d3, d4] => { results := [.lit (.bool false)], args := [d1, d2, d3, d4] }
  | _ => none }
def LedgerWrongWrongFalsely : Prop := ledgerWrongRow.holds Tryz.pinned (OpenSpec.ofChange ledgerWrongWrong)

/-- 'pelotonlaw43.DifferNone': WHATEVER THE INPUT: true; the input reads as it did. -/
def differNoneSpec : ChangeSpec := { name := "differNone", fn := fun _ => fun
  | [d1, d2, d3] => { results := [.lit (.bool true)], args := [d1, d2, d3] }
  | _ => none }
def differNoneRow : OpenClaim := { program := "ytepmgbmnghiaoaagreat", sum := "9cedf105573ca5c8a84cb7c9ecef813e3f5946f36be411f88160f4772787316b", func := "peloton/pelotonlaw43.DifferNone", spec := "differNone", inPlace := ["slices.overlaps[peloton/api.Point]", "math/bits.Add64", "math/bits.Sub64"], unfollowed := true, recurses := true, named := ["math/bits.divideError", "math/bits.overflowError"], apart := false }
def DifferNoneSaid : Prop := differNoneRow.holds Tryz.pinned (OpenSpec.ofChange differNoneSpec)

/-- ITS FALSE NEIGHBOUR: 'it returns false'. Refute it at one input. -/
def differNoneWrong : ChangeSpec := { name := "differNone", fn := fun _ => fun
  | [d1, d2, d3] => { results := [.lit (.bool false)], args := [d1, d2, d3] }
  | _ => none }
def DifferNoneWrongFalsely : Prop := differNoneRow.holds Tryz.pinned (OpenSpec.ofChange differNoneWrong)

/-- 'pelotonlaw43.DifferLeads': WHATEVER THE INPUT: true; the input reads as it did. -/
def differLeadsSpec : ChangeSpec := { name := "differLeads", fn := fun _ => fun
  | [d1, d2] => { results := [.lit (.bool true)], args := [d1, d2] }
  | _ => none }
def differLeadsRow : OpenClaim := { program := "ytepmgbmnghiaoaagreat", sum := "9cedf105573ca5c8a84cb7c9ecef813e3f5946f36be411f88160f4772787316b", func := "peloton/pelotonlaw43.DifferLeads", spec := "differLeads", inPlace := ["slices.overlaps[peloton/api.Point]", "math/bits.Add64", "math/bits.Sub64"], unfollowed := true, recurses := true, named := ["math/bits.divideError", "math/bits.overflowError"], apart := false }
def DifferLeadsSaid : Prop := differLeadsRow.holds Tryz.pinned (OpenSpec.ofChange differLeadsSpec)

/-- ITS FALSE NEIGHBOUR: 'it returns false'. Refute it at one input. -/
def differLeadsWrong : ChangeSpec := { name := "differLeads", fn := fun _ => fun
  | [d1, d2] => { results := [.lit (.bool false)], args := [d1, d2] }
  | _ => none }
def DifferLeadsWrongFalsely : Prop := differLeadsRow.holds Tryz.pinned (OpenSpec.ofChange differLeadsWrong)

/-- 'pelotonlaw42.LedgerNames': WHATEVER THE INPUT: true; the input reads as it did. -/
def ledgerNamesSpec : ChangeSpec := { name := "ledgerNames", fn := fun _ => fun
  | [] => { results := [.lit (.bool true)], args := [] }
  | _ => none }
def ledgerNamesRow : OpenClaim := { program := "ytepmgbmnghiaoaagreat", sum := "9cedf105573ca5c8a84cb7c9ecef813e3f5946f36be411f88160f4772787316b", func := "peloton/pelotonlaw42.LedgerNames", spec := "ledgerNames", inPlace := ["slices.overlaps[peloton/api.Point]", "math/bits.Add64", "math/bits.Sub64"], unfollowed := true, recurses := true, named := ["math/bits.divideError", "math/bits.overflowError"], apart := false }
def LedgerNamesSaid : Prop := ledgerNamesRow.holds Tryz.pinned (OpenSpec.ofChange ledgerNamesSpec)

/-- ITS FALSE NEIGHBOUR: 'it returns false'. Refute it at one input. -/
def ledgerNamesWrong : ChangeSpec := { name := "ledgerNames", fn := fun _ => fun
  | [] => { results := [.lit (.bool false)], args := [] }
  | _ => none }
def LedgerNamesWrongFalsely : Prop := ledgerNamesRow.holds Tryz.pinned (OpenSpec.ofChange ledgerNamesWrong)

/-- 'pelotonlaw42.LedgerBack': WHATEVER THE INPUT: true; the input reads as it did. -/
def ledgerBackSpec : ChangeSpec := { name := "ledgerBack", fn := fun _ => fun
  | [d1, d2, d3] => { results := [.lit (.bool true)], args := [d1, d2, d3] }
  | _ => none }
def ledgerBackRow : OpenClaim := { program := "ytepmgbmnghiaoaagreat", sum := "9cedf105573ca5c8a84cb7c9ecef813e3f5946f36be411f88160f4772787316b", func := "peloton/pelotonlaw42.LedgerBack", spec := "ledgerBack", inPlace := ["slices.overlaps[peloton/api.Point]", "math/bits.Add64", "math/bits.Sub64"], unfollowed := true, recurses := true, named := ["math/bits.divideError", "math/bits.overflowError"], apart := false }
def LedgerBackSaid : Prop := ledgerBackRow.holds Tryz.pinned (OpenSpec.ofChange ledgerBackSpec)

/-- ITS FALSE NEIGHBOUR: 'it returns false'. Refute it at one input. -/
def ledgerBackWrong : ChangeSpec := { name := "ledgerBack", fn := fun _ => fun
  | [d1, d2, d3] => { results := [.lit (.bool false)], args := [d1, d2, d3] }
  | _ => none }
def LedgerBackWrongFalsely : Prop := ledgerBackRow.holds Tryz.pinned (OpenSpec.ofChange ledgerBackWrong)

/-- 'pelotonlaw43.DifferTurns': WHATEVER THE INPUT: true; the input reads as it did. -/
def differTurnsSpec : ChangeSpec := { name := "differTurns", fn := fun _ => fun
  | [d1, d2] => { results := [.lit (.bool true)], args := [d1, d2] }
  | _ => none }
def differTurnsRow : OpenClaim := { program := "ytepmgbmnghiaoaagreat", sum := "9cedf105573ca5c8a84cb7c9ecef813e3f5946f36be411f88160f4772787316b", func := "peloton/pelotonlaw43.DifferTurns", spec := "differTurns", inPlace := ["slices.overlaps[peloton/api.Point]", "math/bits.Add64", "math/bits.Sub64"], unfollowed := true, recurses := true, named := ["math/bits.divideError", "math/bits.overflowError"], apart := false }
def DifferTurnsSaid : Prop := differTurnsRow.holds Tryz.pinned (OpenSpec.ofChange differTurnsSpec)

/-- ITS FALSE NEIGHBOUR: 'it returns false'. Refute it at one input. -/
def differTurnsWrong : ChangeSpec := { name := "differTurns", fn := fun _ => fun
  | [d1, d2] => { results := [.lit (.bool false)], args := [d1, d2] }
  | _ => none }
def DifferTurnsWrongFalsely : Prop := differTurnsRow.holds Tryz.pinned (OpenSpec.ofChange differTurnsWrong)

/-- 'pelotonlaw43.DifferNames': WHATEVER THE INPUT: true; the input reads as it did. -/
def differNamesSpec : ChangeSpec := { name := "differNames", fn := fun _ => fun
  | [] => { results := [.lit (.bool true)], args := [] }
  | _ => none }
def differNamesRow : OpenClaim := { program := "ytepmgbmnghiaoaagreat", sum := "9cedf105573ca5c8a84cb7c9ecef813e3f5946f36be411f88160f4772787316b", func := "peloton/pelotonlaw43.DifferNames", spec := "differNames", inPlace := ["slices.overlaps[peloton/api.Point]", "math/bits.Add64", "math/bits.Sub64"], unfollowed := true, recurses := true, named := ["math/bits.divideError", "math/bits.overflowError"], apart := false }
def DifferNamesSaid : Prop := differNamesRow.holds Tryz.pinned (OpenSpec.ofChange differNamesSpec)

/-- ITS FALSE NEIGHBOUR: 'it returns false'. Refute it at one input. -/
def differNamesWrong : ChangeSpec := { name := "differNames", fn := fun _ => fun
  | [] => { results := [.lit (.bool false)], args := [] }
  | _ => none }
def DifferNamesWrongFalsely : Prop := differNamesRow.holds Tryz.pinned (OpenSpec.ofChange differNamesWrong)

/- THE SECOND FORM. 'bulk': how many values and letters a reading holds, each counted each time it is reached (what is shared counts as often as it is met; a slice's spare places count too). A statement '..UptoSaid' is the law's where the arguments, and the package variables that the reading takes, are together of bulk at most 1048576: NARROWER than '..Said'. Prove '..Said' where nothing that the law and all that it calls make is longer than what came in: it says more and counts as full. Else prove '..UptoSaid'. A law counts once. -/
mutual
def uptoBulk {H : Type} : DataW H → Nat
  | .lit (.string bytes) => bytes.length + 1
  | .lit _ => 1
  | .nil => 1
  | .ptr d => uptoBulk d + 1
  | .slice elems spare => uptoBulkAll elems + uptoBulkAll spare + 1
  | .agg parts => uptoBulkAll parts + 1
  | .iface _ d => uptoBulk d + 1
  | .map entries => uptoBulkEntries entries + 1
  | .held _ => 1
def uptoBulkAll {H : Type} : List (DataW H) → Nat
  | [] => 0
  | d :: r => uptoBulk d + uptoBulkAll r
def uptoBulkEntries {H : Type} : List (Lit × DataW H) → Nat
  | [] => 0
  | x :: r => uptoBulkEntry x + uptoBulkEntries r
def uptoBulkEntry {H : Type} : Lit × DataW H → Nat
  | (.string bytes, d) => bytes.length + uptoBulk d + 1
  | (_, d) => uptoBulk d + 1
 end
def uptoSmall : (H : Type) → List (DataW H) → Bool := fun _ ds => decide (uptoBulkAll ds ≤ 1048576)
def OpenSpec.upto (s : _root_.Go.ChangeSpec) : _root_.Go.OpenSpec := { _root_.Go.OpenSpec.ofChange s with cond := some uptoSmall }

/-- 'pelotonlaw37.OrderTells', WHERE WHAT IT READS IS OF BULK AT MOST 1048576: true; the input reads as it did. -/
def orderTellsUptoRow : OpenClaim := { program := "ytepmgbmnghiaoaagreat", sum := "9cedf105573ca5c8a84cb7c9ecef813e3f5946f36be411f88160f4772787316b", func := "peloton/pelotonlaw37.OrderTells", spec := "orderTells", inPlace := ["slices.overlaps[peloton/api.Point]"], unfollowed := true, recurses := true, apart := false, narrowed := true }
def OrderTellsUptoSaid : Prop := orderTellsUptoRow.holds Tryz.pinned (OpenSpec.upto orderTellsSpec)

/-- 'pelotonlaw43.DifferReplies', WHERE WHAT IT READS IS OF BULK AT MOST 1048576: true; the input reads as it did. -/
def differRepliesUptoRow : OpenClaim := { program := "ytepmgbmnghiaoaagreat", sum := "9cedf105573ca5c8a84cb7c9ecef813e3f5946f36be411f88160f4772787316b", func := "peloton/pelotonlaw43.DifferReplies", spec := "differReplies", inPlace := ["slices.overlaps[peloton/api.Point]", "math/bits.Add64", "math/bits.Sub64"], unfollowed := true, recurses := true, named := ["math/bits.divideError", "math/bits.overflowError"], apart := false, narrowed := true }
def DifferRepliesUptoSaid : Prop := differRepliesUptoRow.holds Tryz.pinned (OpenSpec.upto differRepliesSpec)

/-- 'pelotonlaw42.LedgerTells', WHERE WHAT IT READS IS OF BULK AT MOST 1048576: true; the input reads as it did. -/
def ledgerTellsUptoRow : OpenClaim := { program := "ytepmgbmnghiaoaagreat", sum := "9cedf105573ca5c8a84cb7c9ecef813e3f5946f36be411f88160f4772787316b", func := "peloton/pelotonlaw42.LedgerTells", spec := "ledgerTells", inPlace := ["slices.overlaps[peloton/api.Point]", "math/bits.Add64", "math/bits.Sub64"], unfollowed := true, recurses := true, named := ["math/bits.divideError", "math/bits.overflowError"], apart := false, narrowed := true }
def LedgerTellsUptoSaid : Prop := ledgerTellsUptoRow.holds Tryz.pinned (OpenSpec.upto ledgerTellsSpec)

/-- 'pelotonlaw42.LedgerReplays', WHERE WHAT IT READS IS OF BULK AT MOST 1048576: true; the input reads as it did. -/
def ledgerReplaysUptoRow : OpenClaim := { program := "ytepmgbmnghiaoaagreat", sum := "9cedf105573ca5c8a84cb7c9ecef813e3f5946f36be411f88160f4772787316b", func := "peloton/pelotonlaw42.LedgerReplays", spec := "ledgerReplays", inPlace := ["slices.overlaps[peloton/api.Point]", "math/bits.Add64", "math/bits.Sub64"], unfollowed := true, recurses := true, named := ["math/bits.divideError", "math/bits.overflowError"], apart := false, narrowed := true }
def LedgerReplaysUptoSaid : Prop := ledgerReplaysUptoRow.holds Tryz.pinned (OpenSpec.upto ledgerReplaysSpec)

/-- 'pelotonlaw42.LedgerWrong', WHERE WHAT IT READS IS OF BULK AT MOST 1048576: true; the input reads as it did. -/
def ledgerWrongUptoRow : OpenClaim := { program := "ytepmgbmnghiaoaagreat", sum := "9cedf105573ca5c8a84cb7c9ecef813e3f5946f36be411f88160f4772787316b", func := "peloton/pelotonlaw42.LedgerWrong", spec := "ledgerWrong", inPlace := ["slices.overlaps[peloton/api.Point]", "math/bits.Add64", "math/bits.Sub64"], unfollowed := true, recurses := true, named := ["math/bits.divideError", "math/bits.overflowError"], apart := false, narrowed := true }
def LedgerWrongUptoSaid : Prop := ledgerWrongUptoRow.holds Tryz.pinned (OpenSpec.upto ledgerWrongSpec)

/-- 'pelotonlaw43.DifferNone', WHERE WHAT IT READS IS OF BULK AT MOST 1048576: true; the input reads as it did. -/
def differNoneUptoRow : OpenClaim := { program := "ytepmgbmnghiaoaagreat", sum := "9cedf105573ca5c8a84cb7c9ecef813e3f5946f36be411f88160f4772787316b", func := "peloton/pelotonlaw43.DifferNone", spec := "differNone", inPlace := ["slices.overlaps[peloton/api.Point]", "math/bits.Add64", "math/bits.Sub64"], unfollowed := true, recurses := true, named := ["math/bits.divideError", "math/bits.overflowError"], apart := false, narrowed := true }
def DifferNoneUptoSaid : Prop := differNoneUptoRow.holds Tryz.pinned (OpenSpec.upto differNoneSpec)

/-- 'pelotonlaw43.DifferLeads', WHERE WHAT IT READS IS OF BULK AT MOST 1048576: true; the input reads as it did. -/
def differLeadsUptoRow : OpenClaim := { program := "ytepmgbmnghiaoaagreat", sum := "9cedf105573ca5c8a84cb7c9ecef813e3f5946f36be411f88160f4772787316b", func := "peloton/pelotonlaw43.DifferLeads", spec := "differLeads", inPlace := ["slices.overlaps[peloton/api.Point]", "math/bits.Add64", "math/bits.Sub64"], unfollowed := true, recurses := true, named := ["math/bits.divideError", "math/bits.overflowError"], apart := false, narrowed := true }
def DifferLeadsUptoSaid : Prop := differLeadsUptoRow.holds Tryz.pinned (OpenSpec.upto differLeadsSpec)

/-- 'pelotonlaw42.LedgerNames', WHERE WHAT IT READS IS OF BULK AT MOST 1048576: true; the input reads as it did. -/
def ledgerNamesUptoRow : OpenClaim := { program := "ytepmgbmnghiaoaagreat", sum := "9cedf105573ca5c8a84cb7c9ecef813e3f5946f36be411f88160f4772787316b", func := "peloton/pelotonlaw42.LedgerNames", spec := "ledgerNames", inPlace := ["slices.overlaps[peloton/api.Point]", "math/bits.Add64", "math/bits.Sub64"], unfollowed := true, recurses := true, named := ["math/bits.divideError", "math/bits.overflowError"], apart := false, narrowed := true }
def LedgerNamesUptoSaid : Prop := ledgerNamesUptoRow.holds Tryz.pinned (OpenSpec.upto ledgerNamesSpec)

/-- 'pelotonlaw42.LedgerBack', WHERE WHAT IT READS IS OF BULK AT MOST 1048576: true; the input reads as it did. -/
def ledgerBackUptoRow : OpenClaim := { program := "ytepmgbmnghiaoaagreat", sum := "9cedf105573ca5c8a84cb7c9ecef813e3f5946f36be411f88160f4772787316b", func := "peloton/pelotonlaw42.LedgerBack", spec := "ledgerBack", inPlace := ["slices.overlaps[peloton/api.Point]", "math/bits.Add64", "math/bits.Sub64"], unfollowed := true, recurses := true, named := ["math/bits.divideError", "math/bits.overflowError"], apart := false, narrowed := true }
def LedgerBackUptoSaid : Prop := ledgerBackUptoRow.holds Tryz.pinned (OpenSpec.upto ledgerBackSpec)

/-- 'pelotonlaw43.DifferTurns', WHERE WHAT IT READS IS OF BULK AT MOST 1048576: true; the input reads as it did. -/
def differTurnsUptoRow : OpenClaim := { program := "ytepmgbmnghiaoaagreat", sum := "9cedf105573ca5c8a84cb7c9ecef813e3f5946f36be411f88160f4772787316b", func := "peloton/pelotonlaw43.DifferTurns", spec := "differTurns", inPlace := ["slices.overlaps[peloton/api.Point]", "math/bits.Add64", "math/bits.Sub64"], unfollowed := true, recurses := true, named := ["math/bits.divideError", "math/bits.overflowError"], apart := false, narrowed := true }
def DifferTurnsUptoSaid : Prop := differTurnsUptoRow.holds Tryz.pinned (OpenSpec.upto differTurnsSpec)

/-- 'pelotonlaw43.DifferNames', WHERE WHAT IT READS IS OF BULK AT MOST 1048576: true; the input reads as it did. -/
def differNamesUptoRow : OpenClaim := { program := "ytepmgbmnghiaoaagreat", sum := "9cedf105573ca5c8a84cb7c9ecef813e3f5946f36be411f88160f4772787316b", func := "peloton/pelotonlaw43.DifferNames", spec := "differNames", inPlace := ["slices.overlaps[peloton/api.Point]", "math/bits.Add64", "math/bits.Sub64"], unfollowed := true, recurses := true, named := ["math/bits.divideError", "math/bits.overflowError"], apart := false, narrowed := true }
def DifferNamesUptoSaid : Prop := differNamesUptoRow.holds Tryz.pinned (OpenSpec.upto differNamesSpec)

end Rows
end Go.Proofs.YtepmgbmnghiaoaaGreat
