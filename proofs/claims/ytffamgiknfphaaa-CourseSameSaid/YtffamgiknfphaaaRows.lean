/-
  No cell of these rows narrows 'for every input' (looked for: loops, veiled, ifaces, maps, wideKeys, modest, calm, conditions, laid).
  DERIVED. THE GIVEN ROWS OF THIS SEAT. 6 by the template 'for every input the law returns true; each argument reads behind the call as it read before'; 0 by the template 'total and deterministic' (their statements: YtffamgiknfphaaaTotals.lean).
  GIVEN WITH THE SEED: the statements are not yours to turn. If you find one false, say at which input.
  Laid BY PROGRAM, IN A SANDBOX (cutbox-rows.mjs): the forced cells as the released guide's own fill.sh prints them over the translation 64e1ebb81915eb5e… (all of the seat's roots in one cut). By AI agents, Wed Nov 11 2026. No macro, syntax, notation, axiom, sorry.
-/
import Derived.Test.YtffamgiknfphaaaChecked
import GoSem.Claim
import GoSem.ClaimJoined
import GoSem.ClaimMapViews
import Derived.JoinedTies
import Derived.KernelRfl
namespace Go.Proofs.Ytffamgiknfphaaa
/- THE CELL 'sum', in the pinned program and in every row, IS THE sha256 OF THE DUMP (.gsa) THAT YtffamgiknfphaaaProg.lean LOADS. Nothing in Lean hashes anything: it is a label: what it is worth is what the hold of that sum in a sandbox is worth. -/
noncomputable def Try.pinned : Pinned := { name := "ytffamgiknfphaaa", sum := "64e1ebb81915eb5ea61b5c1814938a3d9018ef8c021341dedb42a2ddc377a281", checked := Try.checked }
namespace Rows
def none {H : Type} : Left H := { results := [], args := [] }

/-- 'pelotonlaw02.CourseMeets': WHATEVER THE INPUT: true; the input reads as it did. -/
def courseMeetsSpec : ChangeSpec := { name := "courseMeets", fn := fun _ => fun
  | [d1, d2, d3] => { results := [.lit (.bool true)], args := [d1, d2, d3] }
  | _ => none }
def courseMeetsRow : OpenClaim := { program := "ytffamgiknfphaaa", sum := "64e1ebb81915eb5ea61b5c1814938a3d9018ef8c021341dedb42a2ddc377a281", func := "peloton/pelotonlaw02.CourseMeets", spec := "courseMeets", inPlace := ["math/bits.Add64"], unfollowed := true, recurses := true, apart := false }
def CourseMeetsSaid : Prop := courseMeetsRow.holds Try.pinned (OpenSpec.ofChange courseMeetsSpec)

/-- ITS FALSE NEIGHBOUR: 'it returns false'. Refute it at one input. -/
def courseMeetsWrong : ChangeSpec := { name := "courseMeets", fn := fun _ => fun
  | [d1, d2, d3] => { results := [.lit (.bool false)], args := [d1, d2, d3] }
  | _ => none }
def CourseMeetsWrongFalsely : Prop := courseMeetsRow.holds Try.pinned (OpenSpec.ofChange courseMeetsWrong)

/-- 'pelotonlaw02.CoursePlaces': WHATEVER THE INPUT: true; the input reads as it did. -/
def coursePlacesSpec : ChangeSpec := { name := "coursePlaces", fn := fun _ => fun
  | [d1, d2] => { results := [.lit (.bool true)], args := [d1, d2] }
  | _ => none }
def coursePlacesRow : OpenClaim := { program := "ytffamgiknfphaaa", sum := "64e1ebb81915eb5ea61b5c1814938a3d9018ef8c021341dedb42a2ddc377a281", func := "peloton/pelotonlaw02.CoursePlaces", spec := "coursePlaces", inPlace := ["math/bits.Add64", "math/bits.Sub64"], unfollowed := true, recurses := true, named := ["math/bits.divideError", "math/bits.overflowError"], apart := false }
def CoursePlacesSaid : Prop := coursePlacesRow.holds Try.pinned (OpenSpec.ofChange coursePlacesSpec)

/-- ITS FALSE NEIGHBOUR: 'it returns false'. Refute it at one input. -/
def coursePlacesWrong : ChangeSpec := { name := "coursePlaces", fn := fun _ => fun
  | [d1, d2] => { results := [.lit (.bool false)], args := [d1, d2] }
  | _ => none }
def CoursePlacesWrongFalsely : Prop := coursePlacesRow.holds Try.pinned (OpenSpec.ofChange coursePlacesWrong)

/-- 'pelotonlaw02.CourseNames': WHATEVER THE INPUT: true; the input reads as it did. -/
def courseNamesSpec : ChangeSpec := { name := "courseNames", fn := fun _ => fun
  | [] => { results := [.lit (.bool true)], args := [] }
  | _ => none }
def courseNamesRow : OpenClaim := { program := "ytffamgiknfphaaa", sum := "64e1ebb81915eb5ea61b5c1814938a3d9018ef8c021341dedb42a2ddc377a281", func := "peloton/pelotonlaw02.CourseNames", spec := "courseNames", inPlace := ["math/bits.Add64", "math/bits.Sub64"], unfollowed := true, recurses := true, named := ["math/bits.divideError", "math/bits.overflowError"], apart := false }
def CourseNamesSaid : Prop := courseNamesRow.holds Try.pinned (OpenSpec.ofChange courseNamesSpec)

/-- ITS FALSE NEIGHBOUR: 'it returns false'. Refute it at one input. -/
def courseNamesWrong : ChangeSpec := { name := "courseNames", fn := fun _ => fun
  | [] => { results := [.lit (.bool false)], args := [] }
  | _ => none }
def CourseNamesWrongFalsely : Prop := courseNamesRow.holds Try.pinned (OpenSpec.ofChange courseNamesWrong)

/-- 'pelotonlaw02.CourseOrder': WHATEVER THE INPUT: true; the input reads as it did. -/
def courseOrderSpec : ChangeSpec := { name := "courseOrder", fn := fun _ => fun
  | [d1, d2, d3, d4] => { results := [.lit (.bool true)], args := [d1, d2, d3, d4] }
  | _ => none }
def courseOrderRow : OpenClaim := { program := "ytffamgiknfphaaa", sum := "64e1ebb81915eb5ea61b5c1814938a3d9018ef8c021341dedb42a2ddc377a281", func := "peloton/pelotonlaw02.CourseOrder", spec := "courseOrder", inPlace := ["math/bits.Add64", "math/bits.Sub64"], unfollowed := true, recurses := true, named := ["math/bits.divideError", "math/bits.overflowError"], apart := false }
def CourseOrderSaid : Prop := courseOrderRow.holds Try.pinned (OpenSpec.ofChange courseOrderSpec)

/-- ITS FALSE NEIGHBOUR: 'it returns false'. Refute it at one input. -/
def courseOrderWrong : ChangeSpec := { name := "courseOrder", fn := fun _ => fun
  | [d1, d2, d3, d4] => { results := [.lit (.bool false)], args := [d1, d2, d3, d4] }
  | _ => none }
def CourseOrderWrongFalsely : Prop := courseOrderRow.holds Try.pinned (OpenSpec.ofChange courseOrderWrong)

/-- 'pelotonlaw02.CourseChanges': WHATEVER THE INPUT: true; the input reads as it did. -/
def courseChangesSpec : ChangeSpec := { name := "courseChanges", fn := fun _ => fun
  | [d1, d2, d3] => { results := [.lit (.bool true)], args := [d1, d2, d3] }
  | _ => none }
def courseChangesRow : OpenClaim := { program := "ytffamgiknfphaaa", sum := "64e1ebb81915eb5ea61b5c1814938a3d9018ef8c021341dedb42a2ddc377a281", func := "peloton/pelotonlaw02.CourseChanges", spec := "courseChanges", inPlace := ["math/bits.Add64", "math/bits.Sub64"], unfollowed := true, recurses := true, named := ["math/bits.divideError", "math/bits.overflowError"], apart := false }
def CourseChangesSaid : Prop := courseChangesRow.holds Try.pinned (OpenSpec.ofChange courseChangesSpec)

/-- ITS FALSE NEIGHBOUR: 'it returns false'. Refute it at one input. -/
def courseChangesWrong : ChangeSpec := { name := "courseChanges", fn := fun _ => fun
  | [d1, d2, d3] => { results := [.lit (.bool false)], args := [d1, d2, d3] }
  | _ => none }
def CourseChangesWrongFalsely : Prop := courseChangesRow.holds Try.pinned (OpenSpec.ofChange courseChangesWrong)

/-- 'pelotonlaw02.CourseSame': WHATEVER THE INPUT: true; the input reads as it did. -/
def courseSameSpec : ChangeSpec := { name := "courseSame", fn := fun _ => fun
  | [d1, d2, d3] => { results := [.lit (.bool true)], args := [d1, d2, d3] }
  | _ => none }
def courseSameRow : OpenClaim := { program := "ytffamgiknfphaaa", sum := "64e1ebb81915eb5ea61b5c1814938a3d9018ef8c021341dedb42a2ddc377a281", func := "peloton/pelotonlaw02.CourseSame", spec := "courseSame", inPlace := ["math/bits.Add64", "math/bits.Sub64"], unfollowed := true, recurses := true, named := ["math/bits.divideError", "math/bits.overflowError"], apart := false }
def CourseSameSaid : Prop := courseSameRow.holds Try.pinned (OpenSpec.ofChange courseSameSpec)

/-- ITS FALSE NEIGHBOUR: 'it returns false'. Refute it at one input. -/
def courseSameWrong : ChangeSpec := { name := "courseSame", fn := fun _ => fun
  | [d1, d2, d3] => { results := [.lit (.bool false)], args := [d1, d2, d3] }
  | _ => none }
def CourseSameWrongFalsely : Prop := courseSameRow.holds Try.pinned (OpenSpec.ofChange courseSameWrong)

/- THE SECOND FORM. 'bulk': how many values and letters a reading holds, each counted each time it is reached (what is shared counts as often as it is met; a slice's spare places count too). A statement '..UptoSaid' is the law's where the arguments, and the package variables that the reading takes, are together of bulk at most 1048576: NARROWER than '..Said'. Prove '..Said' where nothing that the law and all that it calls make is longer than what came in: it says more and counts as full. Else prove '..UptoSaid'. A law counts once. -/
mutual
def uptoBulk {H : Type} : DataW H → Nat
  | .lit (.string bytes) => bytes.length + 1
  | .lit _ => 1
  | .nil => 1
  | .ptr d => uptoBulk d + 1
  | .slice elems spare => uptoBulkAll elems + uptoBulkAll spare + 1
  | .agg parts => uptoBulkAll parts + 1
  | .iface _ d => uptoBulk d + 1
  | .map entries => uptoBulkEntries entries + 1
  | .held _ => 1
def uptoBulkAll {H : Type} : List (DataW H) → Nat
  | [] => 0
  | d :: r => uptoBulk d + uptoBulkAll r
def uptoBulkEntries {H : Type} : List (Lit × DataW H) → Nat
  | [] => 0
  | x :: r => uptoBulkEntry x + uptoBulkEntries r
def uptoBulkEntry {H : Type} : Lit × DataW H → Nat
  | (.string bytes, d) => bytes.length + uptoBulk d + 1
  | (_, d) => uptoBulk d + 1
 end
def uptoSmall : (H : Type) → List (DataW H) → Bool := fun _ ds => decide (uptoBulkAll ds ≤ 1048576)
def OpenSpec.upto (s : _root_.Go.ChangeSpec) : _root_.Go.OpenSpec := { _root_.Go.OpenSpec.ofChange s with cond := some uptoSmall }

/-- 'pelotonlaw02.CourseMeets', WHERE WHAT IT READS IS OF BULK AT MOST 1048576: true; the input reads as it did. -/
def courseMeetsUptoRow : OpenClaim := { program := "ytffamgiknfphaaa", sum := "64e1ebb81915eb5ea61b5c1814938a3d9018ef8c021341dedb42a2ddc377a281", func := "peloton/pelotonlaw02.CourseMeets", spec := "courseMeets", inPlace := ["math/bits.Add64"], unfollowed := true, recurses := true, apart := false, narrowed := true }
def CourseMeetsUptoSaid : Prop := courseMeetsUptoRow.holds Try.pinned (OpenSpec.upto courseMeetsSpec)

/-- 'pelotonlaw02.CoursePlaces', WHERE WHAT IT READS IS OF BULK AT MOST 1048576: true; the input reads as it did. -/
def coursePlacesUptoRow : OpenClaim := { program := "ytffamgiknfphaaa", sum := "64e1ebb81915eb5ea61b5c1814938a3d9018ef8c021341dedb42a2ddc377a281", func := "peloton/pelotonlaw02.CoursePlaces", spec := "coursePlaces", inPlace := ["math/bits.Add64", "math/bits.Sub64"], unfollowed := true, recurses := true, named := ["math/bits.divideError", "math/bits.overflowError"], apart := false, narrowed := true }
def CoursePlacesUptoSaid : Prop := coursePlacesUptoRow.holds Try.pinned (OpenSpec.upto coursePlacesSpec)

/-- 'pelotonlaw02.CourseNames', WHERE WHAT IT READS IS OF BULK AT MOST 1048576: true; the input reads as it did. -/
def courseNamesUptoRow : OpenClaim := { program := "ytffamgiknfphaaa", sum := "64e1ebb81915eb5ea61b5c1814938a3d9018ef8c021341dedb42a2ddc377a281", func := "peloton/pelotonlaw02.CourseNames", spec := "courseNames", inPlace := ["math/bits.Add64", "math/bits.Sub64"], unfollowed := true, recurses := true, named := ["math/bits.divideError", "math/bits.overflowError"], apart := false, narrowed := true }
def CourseNamesUptoSaid : Prop := courseNamesUptoRow.holds Try.pinned (OpenSpec.upto courseNamesSpec)

/-- 'pelotonlaw02.CourseOrder', WHERE WHAT IT READS IS OF BULK AT MOST 1048576: true; the input reads as it did. -/
def courseOrderUptoRow : OpenClaim := { program := "ytffamgiknfphaaa", sum := "64e1ebb81915eb5ea61b5c1814938a3d9018ef8c021341dedb42a2ddc377a281", func := "peloton/pelotonlaw02.CourseOrder", spec := "courseOrder", inPlace := ["math/bits.Add64", "math/bits.Sub64"], unfollowed := true, recurses := true, named := ["math/bits.divideError", "math/bits.overflowError"], apart := false, narrowed := true }
def CourseOrderUptoSaid : Prop := courseOrderUptoRow.holds Try.pinned (OpenSpec.upto courseOrderSpec)

/-- 'pelotonlaw02.CourseChanges', WHERE WHAT IT READS IS OF BULK AT MOST 1048576: true; the input reads as it did. -/
def courseChangesUptoRow : OpenClaim := { program := "ytffamgiknfphaaa", sum := "64e1ebb81915eb5ea61b5c1814938a3d9018ef8c021341dedb42a2ddc377a281", func := "peloton/pelotonlaw02.CourseChanges", spec := "courseChanges", inPlace := ["math/bits.Add64", "math/bits.Sub64"], unfollowed := true, recurses := true, named := ["math/bits.divideError", "math/bits.overflowError"], apart := false, narrowed := true }
def CourseChangesUptoSaid : Prop := courseChangesUptoRow.holds Try.pinned (OpenSpec.upto courseChangesSpec)

/-- 'pelotonlaw02.CourseSame', WHERE WHAT IT READS IS OF BULK AT MOST 1048576: true; the input reads as it did. -/
def courseSameUptoRow : OpenClaim := { program := "ytffamgiknfphaaa", sum := "64e1ebb81915eb5ea61b5c1814938a3d9018ef8c021341dedb42a2ddc377a281", func := "peloton/pelotonlaw02.CourseSame", spec := "courseSame", inPlace := ["math/bits.Add64", "math/bits.Sub64"], unfollowed := true, recurses := true, named := ["math/bits.divideError", "math/bits.overflowError"], apart := false, narrowed := true }
def CourseSameUptoSaid : Prop := courseSameUptoRow.holds Try.pinned (OpenSpec.upto courseSameSpec)

end Rows
end Go.Proofs.Ytffamgiknfphaaa
