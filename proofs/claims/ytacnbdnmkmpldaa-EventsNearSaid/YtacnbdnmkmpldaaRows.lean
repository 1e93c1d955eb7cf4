/-
  No cell of these rows narrows 'for every input' (looked for: loops, veiled, ifaces, maps, wideKeys, modest, calm, conditions, laid).
  DERIVED. THE GIVEN ROWS OF THIS SEAT. 6 by the template 'for every input the law returns true; each argument reads behind the call as it read before'; 0 by the template 'total and deterministic' (their statements: YtacnbdnmkmpldaaTotals.lean).
  GIVEN WITH THE SEED: the statements are not yours to turn. If you find one false, say at which input.
  Laid BY PROGRAM, IN A SANDBOX (cutbox-rows.mjs): the forced cells as the released guide's own fill.sh prints them over the translation 901bf257b594dc3a… (all of the seat's roots in one cut). By AI agents, Wed Nov 11 2026. No macro, syntax, notation, axiom, sorry.
-/
import Derived.Test.YtacnbdnmkmpldaaChecked
import GoSem.Claim
import GoSem.ClaimJoined
import GoSem.ClaimMapViews
import Derived.JoinedTies
import Derived.KernelRfl
namespace Go.Proofs.Ytacnbdnmkmpldaa
/- THE CELL 'sum', in the pinned program and in every row, IS THE sha256 OF THE DUMP (.gsa) THAT YtacnbdnmkmpldaaProg.lean LOADS. Nothing in Lean hashes anything: it is a label: what it is worth is what the hold of that sum in a sandbox is worth. -/
noncomputable def Try.pinned : Pinned := { name := "ytacnbdnmkmpldaa", sum := "901bf257b594dc3acf7206ad7094085255ad0209f413fefb336e5a2c9397eef5", checked := Try.checked }
namespace Rows
def none {H : Type} : Left H := { results := [], args := [] }

/-- 'quadrillelaw06.EventsCheck': WHATEVER THE INPUT: true; the input reads as it did. -/
def eventsCheckSpec : ChangeSpec := { name := "eventsCheck", fn := fun _ => fun
  | [d] => { results := [.lit (.bool true)], args := [d] }
  | _ => none }
def eventsCheckRow : OpenClaim := { program := "ytacnbdnmkmpldaa", sum := "901bf257b594dc3acf7206ad7094085255ad0209f413fefb336e5a2c9397eef5", func := "quadrille/quadrillelaw06.EventsCheck", spec := "eventsCheck", unfollowed := true, recurses := true, apart := false }
def EventsCheckSaid : Prop := eventsCheckRow.holds Try.pinned (OpenSpec.ofChange eventsCheckSpec)

/-- ITS FALSE NEIGHBOUR: 'it returns false'. Refute it at one input. -/
def eventsCheckWrong : ChangeSpec := { name := "eventsCheck", fn := fun _ => fun
  | [d] => { results := [.lit (.bool false)], args := [d] }
  | _ => none }
def EventsCheckWrongFalsely : Prop := eventsCheckRow.holds Try.pinned (OpenSpec.ofChange eventsCheckWrong)

/-- 'quadrillelaw06.EventsCircles': WHATEVER THE INPUT: true; the input reads as it did. -/
def eventsCirclesSpec : ChangeSpec := { name := "eventsCircles", fn := fun _ => fun
  | [d1, d2] => { results := [.lit (.bool true)], args := [d1, d2] }
  | _ => none }
def eventsCirclesRow : OpenClaim := { program := "ytacnbdnmkmpldaa", sum := "901bf257b594dc3acf7206ad7094085255ad0209f413fefb336e5a2c9397eef5", func := "quadrille/quadrillelaw06.EventsCircles", spec := "eventsCircles", unfollowed := true, recurses := true, apart := false }
def EventsCirclesSaid : Prop := eventsCirclesRow.holds Try.pinned (OpenSpec.ofChange eventsCirclesSpec)

/-- ITS FALSE NEIGHBOUR: 'it returns false'. Refute it at one input. -/
def eventsCirclesWrong : ChangeSpec := { name := "eventsCircles", fn := fun _ => fun
  | [d1, d2] => { results := [.lit (.bool false)], args := [d1, d2] }
  | _ => none }
def EventsCirclesWrongFalsely : Prop := eventsCirclesRow.holds Try.pinned (OpenSpec.ofChange eventsCirclesWrong)

/-- 'quadrillelaw06.EventsRank': WHATEVER THE INPUT: true; the input reads as it did. -/
def eventsRankSpec : ChangeSpec := { name := "eventsRank", fn := fun _ => fun
  | [d1, d2] => { results := [.lit (.bool true)], args := [d1, d2] }
  | _ => none }
def eventsRankRow : OpenClaim := { program := "ytacnbdnmkmpldaa", sum := "901bf257b594dc3acf7206ad7094085255ad0209f413fefb336e5a2c9397eef5", func := "quadrille/quadrillelaw06.EventsRank", spec := "eventsRank", unfollowed := true, recurses := true, apart := false }
def EventsRankSaid : Prop := eventsRankRow.holds Try.pinned (OpenSpec.ofChange eventsRankSpec)

/-- ITS FALSE NEIGHBOUR: 'it returns false'. Refute it at one input. -/
def eventsRankWrong : ChangeSpec := { name := "eventsRank", fn := fun _ => fun
  | [d1, d2] => { results := [.lit (.bool false)], args := [d1, d2] }
  | _ => none }
def EventsRankWrongFalsely : Prop := eventsRankRow.holds Try.pinned (OpenSpec.ofChange eventsRankWrong)

/-- 'quadrillelaw06.EventsNear': WHATEVER THE INPUT: true; the input reads as it did. -/
def eventsNearSpec : ChangeSpec := { name := "eventsNear", fn := fun _ => fun
  | [d] => { results := [.lit (.bool true)], args := [d] }
  | _ => none }
def eventsNearRow : OpenClaim := { program := "ytacnbdnmkmpldaa", sum := "901bf257b594dc3acf7206ad7094085255ad0209f413fefb336e5a2c9397eef5", func := "quadrille/quadrillelaw06.EventsNear", spec := "eventsNear", unfollowed := true, recurses := true, apart := false }
def EventsNearSaid : Prop := eventsNearRow.holds Try.pinned (OpenSpec.ofChange eventsNearSpec)

/-- ITS FALSE NEIGHBOUR: 'it returns false'. Refute it at one input. -/
def eventsNearWrong : ChangeSpec := { name := "eventsNear", fn := fun _ => fun
  | [d] => { results := [.lit (.bool false)], args := [d] }
  | _ => none }
def EventsNearWrongFalsely : Prop := eventsNearRow.holds Try.pinned (OpenSpec.ofChange eventsNearWrong)

/-- 'quadrillelaw06.EventsKinds': WHATEVER THE INPUT: true; the input reads as it did. -/
def eventsKindsSpec : ChangeSpec := { name := "eventsKinds", fn := fun _ => fun
  | [d1, d2] => { results := [.lit (.bool true)], args := [d1, d2] }
  | _ => none }
def eventsKindsRow : OpenClaim := { program := "ytacnbdnmkmpldaa", sum := "901bf257b594dc3acf7206ad7094085255ad0209f413fefb336e5a2c9397eef5", func := "quadrille/quadrillelaw06.EventsKinds", spec := "eventsKinds", unfollowed := true, recurses := true, apart := false }
def EventsKindsSaid : Prop := eventsKindsRow.holds Try.pinned (OpenSpec.ofChange eventsKindsSpec)

/-- ITS FALSE NEIGHBOUR: 'it returns false'. Refute it at one input. -/
def eventsKindsWrong : ChangeSpec := { name := "eventsKinds", fn := fun _ => fun
  | [d1, d2] => { results := [.lit (.bool false)], args := [d1, d2] }
  | _ => none }
def EventsKindsWrongFalsely : Prop := eventsKindsRow.holds Try.pinned (OpenSpec.ofChange eventsKindsWrong)

/-- 'quadrillelaw06.EventsOrder': WHATEVER THE INPUT: true; the input reads as it did. -/
def eventsOrderSpec : ChangeSpec := { name := "eventsOrder", fn := fun _ => fun
  | [d] => { results := [.lit (.bool true)], args := [d] }
  | _ => none }
def eventsOrderRow : OpenClaim := { program := "ytacnbdnmkmpldaa", sum := "901bf257b594dc3acf7206ad7094085255ad0209f413fefb336e5a2c9397eef5", func := "quadrille/quadrillelaw06.EventsOrder", spec := "eventsOrder", unfollowed := true, recurses := true, apart := false }
def EventsOrderSaid : Prop := eventsOrderRow.holds Try.pinned (OpenSpec.ofChange eventsOrderSpec)

/-- ITS FALSE NEIGHBOUR: 'it returns false'. Refute it at one input. -/
def eventsOrderWrong : ChangeSpec := { name := "eventsOrder", fn := fun _ => fun
  | [d] => { results := [.lit (.bool false)], args := [d] }
  | _ => none }
def EventsOrderWrongFalsely : Prop := eventsOrderRow.holds Try.pinned (OpenSpec.ofChange eventsOrderWrong)

/- THE SECOND FORM. 'bulk': how many values and letters a reading holds, each counted each time it is reached (what is shared counts as often as it is met; a slice's spare places count too). A statement '..UptoSaid' is the law's where the arguments, and the package variables that the reading takes, are together of bulk at most 1048576: NARROWER than '..Said'. Prove '..Said' where nothing that the law and all that it calls make is longer than what came in: it says more and counts as full. Else prove '..UptoSaid'. A law counts once. -/
mutual
def uptoBulk {H : Type} : DataW H → Nat
  | .lit (.string bytes) => bytes.length + 1
  | .lit _ => 1
  | .nil => 1
  | .ptr d => uptoBulk d + 1
  | .slice elems spare => uptoBulkAll elems + uptoBulkAll spare + 1
  | .agg parts => uptoBulkAll parts + 1
  | .iface _ d => uptoBulk d + 1
  | .map entries => uptoBulkEntries entries + 1
  | .held _ => 1
def uptoBulkAll {H : Type} : List (DataW H) → Nat
  | [] => 0
  | d :: r => uptoBulk d + uptoBulkAll r
def uptoBulkEntries {H : Type} : List (Lit × DataW H) → Nat
  | [] => 0
  | x :: r => uptoBulkEntry x + uptoBulkEntries r
def uptoBulkEntry {H : Type} : Lit × DataW H → Nat
  | (.string bytes, d) => bytes.length + uptoBulk d + 1
  | (_, d) => uptoBulk d + 1
 end
def uptoSmall : (H : Type) → List (DataW H) → Bool := fun _ ds => decide (uptoBulkAll ds ≤ 1048576)
def OpenSpec.upto (s : _root_.Go.ChangeSpec) : _root_.Go.OpenSpec := { _root_.Go.OpenSpec.ofChange s with cond := some uptoSmall }

/-- 'quadrillelaw06.EventsCheck', WHERE WHAT IT READS IS OF BULK AT MOST 1048576: true; the input reads as it did. -/
def eventsCheckUptoRow : OpenClaim := { program := "ytacnbdnmkmpldaa", sum := "901bf257b594dc3acf7206ad7094085255ad0209f413fefb336e5a2c9397eef5", func := "quadrille/quadrillelaw06.EventsCheck", spec := "eventsCheck", unfollowed := true, recurses := true, apart := false, narrowed := true }
def EventsCheckUptoSaid : Prop := eventsCheckUptoRow.holds Try.pinned (OpenSpec.upto eventsCheckSpec)

/-- 'quadrillelaw06.EventsCircles', WHERE WHAT IT READS IS OF BULK AT MOST 1048576: true; the input reads as it did. -/
def eventsCirclesUptoRow : OpenClaim := { program := "ytacnbdnmkmpldaa", sum := "901bf257b594dc3acf7206ad7094085255ad0209f413fefb336e5a2c9397eef5", func := "quadrille/quadrillelaw06.EventsCircles", spec := "eventsCircles", unfollowed := true, recurses := true, apart := false, narrowed := true }
def EventsCirclesUptoSaid : Prop := eventsCirclesUptoRow.holds Try.pinned (OpenSpec.upto eventsCirclesSpec)

/-- 'quadrillelaw06.EventsRank', WHERE WHAT IT READS IS OF BULK AT MOST 1048576: true; the input reads as it did. -/
def eventsRankUptoRow : OpenClaim := { program := "ytacnbdnmkmpldaa", sum := "901bf257b594dc3acf7206ad7094085255ad0209f413fefb336e5a2c9397eef5", func := "quadrille/quadrillelaw06.EventsRank", spec := "eventsRank", unfollowed := true, recurses := true, apart := false, narrowed := true }
def EventsRankUptoSaid : Prop := eventsRankUptoRow.holds Try.pinned (OpenSpec.upto eventsRankSpec)

/-- 'quadrillelaw06.EventsNear', WHERE WHAT IT READS IS OF BULK AT MOST 1048576: true; the input reads as it did. -/
def eventsNearUptoRow : OpenClaim := { program := "ytacnbdnmkmpldaa", sum := "901bf257b594dc3acf7206ad7094085255ad0209f413fefb336e5a2c9397eef5", func := "quadrille/quadrillelaw06.EventsNear", spec := "eventsNear", unfollowed := true, recurses := true, apart := false, narrowed := true }
def EventsNearUptoSaid : Prop := eventsNearUptoRow.holds Try.pinned (OpenSpec.upto eventsNearSpec)

/-- 'quadrillelaw06.EventsKinds', WHERE WHAT IT READS IS OF BULK AT MOST 1048576: true; the input reads as it did. -/
def eventsKindsUptoRow : OpenClaim := { program := "ytacnbdnmkmpldaa", sum := "901bf257b594dc3acf7206ad7094085255ad0209f413fefb336e5a2c9397eef5", func := "quadrille/quadrillelaw06.EventsKinds", spec := "eventsKinds", unfollowed := true, recurses := true, apart := false, narrowed := true }
def EventsKindsUptoSaid : Prop := eventsKindsUptoRow.holds Try.pinned (OpenSpec.upto eventsKindsSpec)

/-- 'quadrillelaw06.EventsOrder', WHERE WHAT IT READS IS OF BULK AT MOST 1048576: true; the input reads as it did. -/
def eventsOrderUptoRow : OpenClaim := { program := "ytacnbdnmkmpldaa", sum := "901bf257b594dc3acf7206ad7094085255ad0209f413fefb336e5a2c9397eef5", func := "quadrille/quadrillelaw06.EventsOrder", spec := "eventsOrder", unfollowed := true, recurses := true, apart := false, narrowed := true }
def EventsOrderUptoSaid : Prop := eventsOrderUptoRow.holds Try.pinned (OpenSpec.upto eventsOrderSpec)

end Rows
end Go.Proofs.Ytacnbdnmkmpldaa
