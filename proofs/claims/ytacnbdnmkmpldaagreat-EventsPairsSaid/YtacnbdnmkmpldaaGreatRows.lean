/-
  No cell of these rows narrows 'for every input' (looked for: loops, veiled, ifaces, maps, wideKeys, modest, calm, conditions, laid).
  DERIVED. THE GIVEN ROWS OF THIS SEAT. 17 by the template 'for every input the law returns true; each argument reads behind the call as it read before'; 0 by the template 'total and deterministic' (their statements: YtacnbdnmkmpldaaGreatTotals.lean).
  GIVEN WITH THE SEED: the statements are not yours to turn. If you find one false, say at which input.
  Laid BY PROGRAM, IN A SANDBOX (cutbox-rows.mjs): the forced cells as the released guide's own fill.sh prints them over the translation 79b34953738a4556… (all of the seat's roots in one cut). By AI agents, Wed Nov 11 2026. No macro, syntax, notation, axiom, sorry.
-/
import Derived.Test.YtacnbdnmkmpldaaGreatChecked
import GoSem.Claim
import GoSem.ClaimJoined
import GoSem.ClaimMapViews
import Derived.JoinedTies
import Derived.KernelRfl
namespace Go.Proofs.YtacnbdnmkmpldaaGreat
/- THE CELL 'sum', in the pinned program and in every row, IS THE sha256 OF THE DUMP (.gsa) THAT YtacnbdnmkmpldaaGreatProg.lean LOADS. Nothing in Lean hashes anything: it is a label: what it is worth is what the hold of that sum in a sandbox is worth. -/
noncomputable def Tryz.pinned : Pinned := { name := "ytacnbdnmkmpldaagreat", sum := "79b34953738a4556bc872eab509d9631f7cd3b9ad9ff24d3f528917974a11ef3", checked := Tryz.checked }
namespace Rows
def none {H : Type} : Left H := { results := [], args := [] }

/-- 'quadrillelaw06.EventsPairs': WHATEVER THE INPUT: true; the input reads as it did. -/
def eventsPairsSpec : ChangeSpec := { name := "eventsPairs", fn := fun _ => fun
  | [d] => { results := [.lit (.bool true)], args := [d] }
  | _ => none }
def eventsPairsRow : OpenClaim := { program := "ytacnbdnmkmpldaagreat", sum := "79b34953738a4556bc872eab509d9631f7cd3b9ad9ff24d3f528917974a11ef3", func := "quadrille/quadrillelaw06.EventsPairs", spec := "eventsPairs", unfollowed := true, recurses := true, plainKeys := false, apart := false }
def EventsPairsSaid : Prop := eventsPairsRow.holds Tryz.pinned (OpenSpec.ofChange eventsPairsSpec)

/-- ITS FALSE NEIGHBOUR: 'it returns false'. Refute it at one input. -/
def eventsPairsWrong : ChangeSpec := { name := "eventsPairs", fn := fun _ => fun
  | [d] => { results := [.lit (.bool false)], args := [d] }
  | _ => none }
def EventsPairsWrongFalsely : Prop := eventsPairsRow.holds Tryz.pinned (OpenSpec.ofChange eventsPairsWrong)

/-- 'quadrillelaw07.OrderPpo': WHATEVER THE INPUT: true; the input reads as it did. -/
def orderPpoSpec : ChangeSpec := { name := "orderPpo", fn := fun _ => fun
  | [d] => { results := [.lit (.bool true)], args := [d] }
  | _ => none }
def orderPpoRow : OpenClaim := { program := "ytacnbdnmkmpldaagreat", sum := "79b34953738a4556bc872eab509d9631f7cd3b9ad9ff24d3f528917974a11ef3", func := "quadrille/quadrillelaw07.OrderPpo", spec := "orderPpo", unfollowed := true, recurses := true, plainKeys := false, apart := false }
def OrderPpoSaid : Prop := orderPpoRow.holds Tryz.pinned (OpenSpec.ofChange orderPpoSpec)

/-- ITS FALSE NEIGHBOUR: 'it returns false'. Refute it at one input. -/
def orderPpoWrong : ChangeSpec := { name := "orderPpo", fn := fun _ => fun
  | [d] => { results := [.lit (.bool false)], args := [d] }
  | _ => none }
def OrderPpoWrongFalsely : Prop := orderPpoRow.holds Tryz.pinned (OpenSpec.ofChange orderPpoWrong)

/-- 'quadrillelaw07.OrderWithin': WHATEVER THE INPUT: true; the input reads as it did. -/
def orderWithinSpec : ChangeSpec := { name := "orderWithin", fn := fun _ => fun
  | [d] => { results := [.lit (.bool true)], args := [d] }
  | _ => none }
def orderWithinRow : OpenClaim := { program := "ytacnbdnmkmpldaagreat", sum := "79b34953738a4556bc872eab509d9631f7cd3b9ad9ff24d3f528917974a11ef3", func := "quadrille/quadrillelaw07.OrderWithin", spec := "orderWithin", unfollowed := true, recurses := true, plainKeys := false, apart := false }
def OrderWithinSaid : Prop := orderWithinRow.holds Tryz.pinned (OpenSpec.ofChange orderWithinSpec)

/-- ITS FALSE NEIGHBOUR: 'it returns false'. Refute it at one input. -/
def orderWithinWrong : ChangeSpec := { name := "orderWithin", fn := fun _ => fun
  | [d] => { results := [.lit (.bool false)], args := [d] }
  | _ => none }
def OrderWithinWrongFalsely : Prop := orderWithinRow.holds Tryz.pinned (OpenSpec.ofChange orderWithinWrong)

/-- 'quadrillelaw07.OrderFences': WHATEVER THE INPUT: true; the input reads as it did. -/
def orderFencesSpec : ChangeSpec := { name := "orderFences", fn := fun _ => fun
  | [d1, d2, d3] => { results := [.lit (.bool true)], args := [d1, d2, d3] }
  | _ => none }
def orderFencesRow : OpenClaim := { program := "ytacnbdnmkmpldaagreat", sum := "79b34953738a4556bc872eab509d9631f7cd3b9ad9ff24d3f528917974a11ef3", func := "quadrille/quadrillelaw07.OrderFences", spec := "orderFences", unfollowed := true, recurses := true, plainKeys := false, apart := false }
def OrderFencesSaid : Prop := orderFencesRow.holds Tryz.pinned (OpenSpec.ofChange orderFencesSpec)

/-- ITS FALSE NEIGHBOUR: 'it returns false'. Refute it at one input. -/
def orderFencesWrong : ChangeSpec := { name := "orderFences", fn := fun _ => fun
  | [d1, d2, d3] => { results := [.lit (.bool false)], args := [d1, d2, d3] }
  | _ => none }
def OrderFencesWrongFalsely : Prop := orderFencesRow.holds Tryz.pinned (OpenSpec.ofChange orderFencesWrong)

/-- 'quadrillelaw07.OrderAlike': WHATEVER THE INPUT: true; the input reads as it did. -/
def orderAlikeSpec : ChangeSpec := { name := "orderAlike", fn := fun _ => fun
  | [d] => { results := [.lit (.bool true)], args := [d] }
  | _ => none }
def orderAlikeRow : OpenClaim := { program := "ytacnbdnmkmpldaagreat", sum := "79b34953738a4556bc872eab509d9631f7cd3b9ad9ff24d3f528917974a11ef3", func := "quadrille/quadrillelaw07.OrderAlike", spec := "orderAlike", unfollowed := true, recurses := true, plainKeys := false, apart := false }
def OrderAlikeSaid : Prop := orderAlikeRow.holds Tryz.pinned (OpenSpec.ofChange orderAlikeSpec)

/-- ITS FALSE NEIGHBOUR: 'it returns false'. Refute it at one input. -/
def orderAlikeWrong : ChangeSpec := { name := "orderAlike", fn := fun _ => fun
  | [d] => { results := [.lit (.bool false)], args := [d] }
  | _ => none }
def OrderAlikeWrongFalsely : Prop := orderAlikeRow.holds Tryz.pinned (OpenSpec.ofChange orderAlikeWrong)

/-- 'quadrillelaw07.OrderPaired': WHATEVER THE INPUT: true; the input reads as it did. -/
def orderPairedSpec : ChangeSpec := { name := "orderPaired", fn := fun _ => fun
  | [d1, d2] => { results := [.lit (.bool true)], args := [d1, d2] }
  | _ => none }
def orderPairedRow : OpenClaim := { program := "ytacnbdnmkmpldaagreat", sum := "79b34953738a4556bc872eab509d9631f7cd3b9ad9ff24d3f528917974a11ef3", func := "quadrille/quadrillelaw07.OrderPaired", spec := "orderPaired", unfollowed := true, recurses := true, plainKeys := false, apart := false }
def OrderPairedSaid : Prop := orderPairedRow.holds Tryz.pinned (OpenSpec.ofChange orderPairedSpec)

/-- ITS FALSE NEIGHBOUR: 'it returns false'. Refute it at one input. -/
def orderPairedWrong : ChangeSpec := { name := "orderPaired", fn := fun _ => fun
  | [d1, d2] => { results := [.lit (.bool false)], args := [d1, d2] }
  | _ => none }
def OrderPairedWrongFalsely : Prop := orderPairedRow.holds Tryz.pinned (OpenSpec.ofChange orderPairedWrong)

/-- 'quadrillelaw07.OrderReserves': WHATEVER THE INPUT: true; the input reads as it did. -/
def orderReservesSpec : ChangeSpec := { name := "orderReserves", fn := fun _ => fun
  | [d] => { results := [.lit (.bool true)], args := [d] }
  | _ => none }
def orderReservesRow : OpenClaim := { program := "ytacnbdnmkmpldaagreat", sum := "79b34953738a4556bc872eab509d9631f7cd3b9ad9ff24d3f528917974a11ef3", func := "quadrille/quadrillelaw07.OrderReserves", spec := "orderReserves", unfollowed := true, recurses := true, plainKeys := false, apart := false }
def OrderReservesSaid : Prop := orderReservesRow.holds Tryz.pinned (OpenSpec.ofChange orderReservesSpec)

/-- ITS FALSE NEIGHBOUR: 'it returns false'. Refute it at one input. -/
def orderReservesWrong : ChangeSpec := { name := "orderReserves", fn := fun _ => fun
  | [d] => { results := [.lit (.bool false)], args := [d] }
  | _ => none }
def OrderReservesWrongFalsely : Prop := orderReservesRow.holds Tryz.pinned (OpenSpec.ofChange orderReservesWrong)

/-- 'quadrillelaw07.OrderRules': WHATEVER THE INPUT: true; the input reads as it did. -/
def orderRulesSpec : ChangeSpec := { name := "orderRules", fn := fun _ => fun
  | [d] => { results := [.lit (.bool true)], args := [d] }
  | _ => none }
def orderRulesRow : OpenClaim := { program := "ytacnbdnmkmpldaagreat", sum := "79b34953738a4556bc872eab509d9631f7cd3b9ad9ff24d3f528917974a11ef3", func := "quadrille/quadrillelaw07.OrderRules", spec := "orderRules", unfollowed := true, recurses := true, plainKeys := false, apart := false }
def OrderRulesSaid : Prop := orderRulesRow.holds Tryz.pinned (OpenSpec.ofChange orderRulesSpec)

/-- ITS FALSE NEIGHBOUR: 'it returns false'. Refute it at one input. -/
def orderRulesWrong : ChangeSpec := { name := "orderRules", fn := fun _ => fun
  | [d] => { results := [.lit (.bool false)], args := [d] }
  | _ => none }
def OrderRulesWrongFalsely : Prop := orderRulesRow.holds Tryz.pinned (OpenSpec.ofChange orderRulesWrong)

/-- 'quadrillelaw07.OrderRule': WHATEVER THE INPUT: true; the input reads as it did. -/
def orderRuleSpec : ChangeSpec := { name := "orderRule", fn := fun _ => fun
  | [d1, d2, d3] => { results := [.lit (.bool true)], args := [d1, d2, d3] }
  | _ => none }
def orderRuleRow : OpenClaim := { program := "ytacnbdnmkmpldaagreat", sum := "79b34953738a4556bc872eab509d9631f7cd3b9ad9ff24d3f528917974a11ef3", func := "quadrille/quadrillelaw07.OrderRule", spec := "orderRule", unfollowed := true, recurses := true, plainKeys := false, apart := false }
def OrderRuleSaid : Prop := orderRuleRow.holds Tryz.pinned (OpenSpec.ofChange orderRuleSpec)

/-- ITS FALSE NEIGHBOUR: 'it returns false'. Refute it at one input. -/
def orderRuleWrong : ChangeSpec := { name := "orderRule", fn := fun _ => fun
  | [d1, d2, d3] => { results := [.lit (.bool false)], args := [d1, d2, d3] }
  | _ => none }
def OrderRuleWrongFalsely : Prop := orderRuleRow.holds Tryz.pinned (OpenSpec.ofChange orderRuleWrong)

/-- 'quadrillelaw08.ModelAxioms': WHATEVER THE INPUT: true; the input reads as it did. -/
def modelAxiomsSpec : ChangeSpec := { name := "modelAxioms", fn := fun _ => fun
  | [d] => { results := [.lit (.bool true)], args := [d] }
  | _ => none }
def modelAxiomsRow : OpenClaim := { program := "ytacnbdnmkmpldaagreat", sum := "79b34953738a4556bc872eab509d9631f7cd3b9ad9ff24d3f528917974a11ef3", func := "quadrille/quadrillelaw08.ModelAxioms", spec := "modelAxioms", unfollowed := true, recurses := true, plainKeys := false, apart := false }
def ModelAxiomsSaid : Prop := modelAxiomsRow.holds Tryz.pinned (OpenSpec.ofChange modelAxiomsSpec)

/-- ITS FALSE NEIGHBOUR: 'it returns false'. Refute it at one input. -/
def modelAxiomsWrong : ChangeSpec := { name := "modelAxioms", fn := fun _ => fun
  | [d] => { results := [.lit (.bool false)], args := [d] }
  | _ => none }
def ModelAxiomsWrongFalsely : Prop := modelAxiomsRow.holds Tryz.pinned (OpenSpec.ofChange modelAxiomsWrong)

/-- 'quadrillelaw08.ModelJudge': WHATEVER THE INPUT: true; the input reads as it did. -/
def modelJudgeSpec : ChangeSpec := { name := "modelJudge", fn := fun _ => fun
  | [d] => { results := [.lit (.bool true)], args := [d] }
  | _ => none }
def modelJudgeRow : OpenClaim := { program := "ytacnbdnmkmpldaagreat", sum := "79b34953738a4556bc872eab509d9631f7cd3b9ad9ff24d3f528917974a11ef3", func := "quadrille/quadrillelaw08.ModelJudge", spec := "modelJudge", unfollowed := true, recurses := true, plainKeys := false, apart := false }
def ModelJudgeSaid : Prop := modelJudgeRow.holds Tryz.pinned (OpenSpec.ofChange modelJudgeSpec)

/-- ITS FALSE NEIGHBOUR: 'it returns false'. Refute it at one input. -/
def modelJudgeWrong : ChangeSpec := { name := "modelJudge", fn := fun _ => fun
  | [d] => { results := [.lit (.bool false)], args := [d] }
  | _ => none }
def ModelJudgeWrongFalsely : Prop := modelJudgeRow.holds Tryz.pinned (OpenSpec.ofChange modelJudgeWrong)

/-- 'quadrillelaw08.ModelLess': WHATEVER THE INPUT: true; the input reads as it did. -/
def modelLessSpec : ChangeSpec := { name := "modelLess", fn := fun _ => fun
  | [d1, d2] => { results := [.lit (.bool true)], args := [d1, d2] }
  | _ => none }
def modelLessRow : OpenClaim := { program := "ytacnbdnmkmpldaagreat", sum := "79b34953738a4556bc872eab509d9631f7cd3b9ad9ff24d3f528917974a11ef3", func := "quadrille/quadrillelaw08.ModelLess", spec := "modelLess", unfollowed := true, recurses := true, plainKeys := false, apart := false }
def ModelLessSaid : Prop := modelLessRow.holds Tryz.pinned (OpenSpec.ofChange modelLessSpec)

/-- ITS FALSE NEIGHBOUR: 'it returns false'. Refute it at one input. -/
def modelLessWrong : ChangeSpec := { name := "modelLess", fn := fun _ => fun
  | [d1, d2] => { results := [.lit (.bool false)], args := [d1, d2] }
  | _ => none }
def ModelLessWrongFalsely : Prop := modelLessRow.holds Tryz.pinned (OpenSpec.ofChange modelLessWrong)

/-- 'quadrillelaw08.ModelOne': WHATEVER THE INPUT: true; the input reads as it did. -/
def modelOneSpec : ChangeSpec := { name := "modelOne", fn := fun _ => fun
  | [d] => { results := [.lit (.bool true)], args := [d] }
  | _ => none }
def modelOneRow : OpenClaim := { program := "ytacnbdnmkmpldaagreat", sum := "79b34953738a4556bc872eab509d9631f7cd3b9ad9ff24d3f528917974a11ef3", func := "quadrille/quadrillelaw08.ModelOne", spec := "modelOne", unfollowed := true, recurses := true, plainKeys := false, apart := false }
def ModelOneSaid : Prop := modelOneRow.holds Tryz.pinned (OpenSpec.ofChange modelOneSpec)

/-- ITS FALSE NEIGHBOUR: 'it returns false'. Refute it at one input. -/
def modelOneWrong : ChangeSpec := { name := "modelOne", fn := fun _ => fun
  | [d] => { results := [.lit (.bool false)], args := [d] }
  | _ => none }
def ModelOneWrongFalsely : Prop := modelOneRow.holds Tryz.pinned (OpenSpec.ofChange modelOneWrong)

/-- 'quadrillelaw08.ModelShapes': WHATEVER THE INPUT: true; the input reads as it did. -/
def modelShapesSpec : ChangeSpec := { name := "modelShapes", fn := fun _ => fun
  | [d1, d2, d3] => { results := [.lit (.bool true)], args := [d1, d2, d3] }
  | _ => none }
def modelShapesRow : OpenClaim := { program := "ytacnbdnmkmpldaagreat", sum := "79b34953738a4556bc872eab509d9631f7cd3b9ad9ff24d3f528917974a11ef3", func := "quadrille/quadrillelaw08.ModelShapes", spec := "modelShapes", unfollowed := true, recurses := true, plainKeys := false, apart := false }
def ModelShapesSaid : Prop := modelShapesRow.holds Tryz.pinned (OpenSpec.ofChange modelShapesSpec)

/-- ITS FALSE NEIGHBOUR: 'it returns false'. Refute it at one input. -/
def modelShapesWrong : ChangeSpec := { name := "modelShapes", fn := fun _ => fun
  | [d1, d2, d3] => { results := [.lit (.bool false)], args := [d1, d2, d3] }
  | _ => none }
def ModelShapesWrongFalsely : Prop := modelShapesRow.holds Tryz.pinned (OpenSpec.ofChange modelShapesWrong)

/-- 'quadrillelaw08.ModelPairs': WHATEVER THE INPUT: true; the input reads as it did. -/
def modelPairsSpec : ChangeSpec := { name := "modelPairs", fn := fun _ => fun
  | [d1, d2, d3] => { results := [.lit (.bool true)], args := [d1, d2, d3] }
  | _ => none }
def modelPairsRow : OpenClaim := { program := "ytacnbdnmkmpldaagreat", sum := "79b34953738a4556bc872eab509d9631f7cd3b9ad9ff24d3f528917974a11ef3", func := "quadrille/quadrillelaw08.ModelPairs", spec := "modelPairs", unfollowed := true, recurses := true, plainKeys := false, apart := false }
def ModelPairsSaid : Prop := modelPairsRow.holds Tryz.pinned (OpenSpec.ofChange modelPairsSpec)

/-- ITS FALSE NEIGHBOUR: 'it returns false'. Refute it at one input. -/
def modelPairsWrong : ChangeSpec := { name := "modelPairs", fn := fun _ => fun
  | [d1, d2, d3] => { results := [.lit (.bool false)], args := [d1, d2, d3] }
  | _ => none }
def ModelPairsWrongFalsely : Prop := modelPairsRow.holds Tryz.pinned (OpenSpec.ofChange modelPairsWrong)

/-- 'quadrillelaw08.ModelArrows': WHATEVER THE INPUT: true; the input reads as it did. -/
def modelArrowsSpec : ChangeSpec := { name := "modelArrows", fn := fun _ => fun
  | [d] => { results := [.lit (.bool true)], args := [d] }
  | _ => none }
def modelArrowsRow : OpenClaim := { program := "ytacnbdnmkmpldaagreat", sum := "79b34953738a4556bc872eab509d9631f7cd3b9ad9ff24d3f528917974a11ef3", func := "quadrille/quadrillelaw08.ModelArrows", spec := "modelArrows", unfollowed := true, recurses := true, plainKeys := false, apart := false }
def ModelArrowsSaid : Prop := modelArrowsRow.holds Tryz.pinned (OpenSpec.ofChange modelArrowsSpec)

/-- ITS FALSE NEIGHBOUR: 'it returns false'. Refute it at one input. -/
def modelArrowsWrong : ChangeSpec := { name := "modelArrows", fn := fun _ => fun
  | [d] => { results := [.lit (.bool false)], args := [d] }
  | _ => none }
def ModelArrowsWrongFalsely : Prop := modelArrowsRow.holds Tryz.pinned (OpenSpec.ofChange modelArrowsWrong)

/-- 'quadrillelaw08.ModelGlobal': WHATEVER THE INPUT: true; the input reads as it did. -/
def modelGlobalSpec : ChangeSpec := { name := "modelGlobal", fn := fun _ => fun
  | [d] => { results := [.lit (.bool true)], args := [d] }
  | _ => none }
def modelGlobalRow : OpenClaim := { program := "ytacnbdnmkmpldaagreat", sum := "79b34953738a4556bc872eab509d9631f7cd3b9ad9ff24d3f528917974a11ef3", func := "quadrille/quadrillelaw08.ModelGlobal", spec := "modelGlobal", unfollowed := true, recurses := true, plainKeys := false, apart := false }
def ModelGlobalSaid : Prop := modelGlobalRow.holds Tryz.pinned (OpenSpec.ofChange modelGlobalSpec)

/-- ITS FALSE NEIGHBOUR: 'it returns false'. Refute it at one input. -/
def modelGlobalWrong : ChangeSpec := { name := "modelGlobal", fn := fun _ => fun
  | [d] => { results := [.lit (.bool false)], args := [d] }
  | _ => none }
def ModelGlobalWrongFalsely : Prop := modelGlobalRow.holds Tryz.pinned (OpenSpec.ofChange modelGlobalWrong)

/- THE SECOND FORM. 'bulk': how many values and letters a reading holds, each counted each time it is reached (what is shared counts as often as it is met; a slice's spare places count too). A statement '..UptoSaid' is the law's where the arguments, and the package variables that the reading takes, are together of bulk at most 1048576: NARROWER than '..Said'. Prove '..Said' where nothing that the law and all that it calls make is longer than what came in: it says more and counts as full. Else prove '..UptoSaid'. A law counts once. -/
mutual
def uptoBulk {H : Type} : DataW H → Nat
  | .lit (.string bytes) => bytes.length + 1
  | .lit _ => 1
  | .nil => 1
  | .ptr d => uptoBulk d + 1
  | .slice elems spare => uptoBulkAll elems + uptoBulkAll spare + 1
  | .agg parts => uptoBulkAll parts + 1
  | .iface _ d => uptoBulk d + 1
  | .map entries => uptoBulkEntries entries + 1
  | .held _ => 1
def uptoBulkAll {H : Type} : List (DataW H) → Nat
  | [] => 0
  | d :: r => uptoBulk d + uptoBulkAll r
def uptoBulkEntries {H : Type} : List (Lit × DataW H) → Nat
  | [] => 0
  | x :: r => uptoBulkEntry x + uptoBulkEntries r
def uptoBulkEntry {H : Type} : Lit × DataW H → Nat
  | (.string bytes, d) => bytes.length + uptoBulk d + 1
  | (_, d) => uptoBulk d + 1
 end
def uptoSmall : (H : Type) → List (DataW H) → Bool := fun _ ds => decide (uptoBulkAll ds ≤ 1048576)
def OpenSpec.upto (s : _root_.Go.ChangeSpec) : _root_.Go.OpenSpec := { _root_.Go.OpenSpec.ofChange s with cond := some uptoSmall }

/-- 'quadrillelaw06.EventsPairs', WHERE WHAT IT READS IS OF BULK AT MOST 1048576: true; the input reads as it did. -/
def eventsPairsUptoRow : OpenClaim := { program := "ytacnbdnmkmpldaagreat", sum := "79b34953738a4556bc872eab509d9631f7cd3b9ad9ff24d3f528917974a11ef3", func := "quadrille/quadrillelaw06.EventsPairs", spec := "eventsPairs", unfollowed := true, recurses := true, plainKeys := false, apart := false, narrowed := true }
def EventsPairsUptoSaid : Prop := eventsPairsUptoRow.holds Tryz.pinned (OpenSpec.upto eventsPairsSpec)

/-- 'quadrillelaw07.OrderPpo', WHERE WHAT IT READS IS OF BULK AT MOST 1048576: true; the input reads as it did. -/
def orderPpoUptoRow : OpenClaim := { program := "ytacnbdnmkmpldaagreat", sum := "79b34953738a4556bc872eab509d9631f7cd3b9ad9ff24d3f528917974a11ef3", func := "quadrille/quadrillelaw07.OrderPpo", spec := "orderPpo", unfollowed := true, recurses := true, plainKeys := false, apart := false, narrowed := true }
def OrderPpoUptoSaid : Prop := orderPpoUptoRow.holds Tryz.pinned (OpenSpec.upto orderPpoSpec)

/-- 'quadrillelaw07.OrderWithin', WHERE WHAT IT READS IS OF BULK AT MOST 1048576: true; the input reads as it did. -/
def orderWithinUptoRow : OpenClaim := { program := "ytacnbdnmkmpldaagreat", sum := "79b34953738a4556bc872eab509d9631f7cd3b9ad9ff24d3f528917974a11ef3", func := "quadrille/quadrillelaw07.OrderWithin", spec := "orderWithin", unfollowed := true, recurses := true, plainKeys := false, apart := false, narrowed := true }
def OrderWithinUptoSaid : Prop := orderWithinUptoRow.holds Tryz.pinned (OpenSpec.upto orderWithinSpec)

/-- 'quadrillelaw07.OrderFences', WHERE WHAT IT READS IS OF BULK AT MOST 1048576: true; the input reads as it did. -/
def orderFencesUptoRow : OpenClaim := { program := "ytacnbdnmkmpldaagreat", sum := "79b34953738a4556bc872eab509d9631f7cd3b9ad9ff24d3f528917974a11ef3", func := "quadrille/quadrillelaw07.OrderFences", spec := "orderFences", unfollowed := true, recurses := true, plainKeys := false, apart := false, narrowed := true }
def OrderFencesUptoSaid : Prop := orderFencesUptoRow.holds Tryz.pinned (OpenSpec.upto orderFencesSpec)

/-- 'quadrillelaw07.OrderAlike', WHERE WHAT IT READS IS OF BULK AT MOST 1048576: true; the input reads as it did. -/
def orderAlikeUptoRow : OpenClaim := { program := "ytacnbdnmkmpldaagreat", sum := "79b34953738a4556bc872eab509d9631f7cd3b9ad9ff24d3f528917974a11ef3", func := "quadrille/quadrillelaw07.OrderAlike", spec := "orderAlike", unfollowed := true, recurses := true, plainKeys := false, apart := false, narrowed := true }
def OrderAlikeUptoSaid : Prop := orderAlikeUptoRow.holds Tryz.pinned (OpenSpec.upto orderAlikeSpec)

/-- 'quadrillelaw07.OrderPaired', WHERE WHAT IT READS IS OF BULK AT MOST 1048576: true; the input reads as it did. -/
def orderPairedUptoRow : OpenClaim := { program := "ytacnbdnmkmpldaagreat", sum := "79b34953738a4556bc872eab509d9631f7cd3b9ad9ff24d3f528917974a11ef3", func := "quadrille/quadrillelaw07.OrderPaired", spec := "orderPaired", unfollowed := true, recurses := true, plainKeys := false, apart := false, narrowed := true }
def OrderPairedUptoSaid : Prop := orderPairedUptoRow.holds Tryz.pinned (OpenSpec.upto orderPairedSpec)

/-- 'quadrillelaw07.OrderReserves', WHERE WHAT IT READS IS OF BULK AT MOST 1048576: true; the input reads as it did. -/
def orderReservesUptoRow : OpenClaim := { program := "ytacnbdnmkmpldaagreat", sum := "79b34953738a4556bc872eab509d9631f7cd3b9ad9ff24d3f528917974a11ef3", func := "quadrille/quadrillelaw07.OrderReserves", spec := "orderReserves", unfollowed := true, recurses := true, plainKeys := false, apart := false, narrowed := true }
def OrderReservesUptoSaid : Prop := orderReservesUptoRow.holds Tryz.pinned (OpenSpec.upto orderReservesSpec)

/-- 'quadrillelaw07.OrderRules', WHERE WHAT IT READS IS OF BULK AT MOST 1048576: true; the input reads as it did. -/
def orderRulesUptoRow : OpenClaim := { program := "ytacnbdnmkmpldaagreat", sum := "79b34953738a4556bc872eab509d9631f7cd3b9ad9ff24d3f528917974a11ef3", func := "quadrille/quadrillelaw07.OrderRules", spec := "orderRules", unfollowed := true, recurses := true, plainKeys := false, apart := false, narrowed := true }
def OrderRulesUptoSaid : Prop := orderRulesUptoRow.holds Tryz.pinned (OpenSpec.upto orderRulesSpec)

/-- 'quadrillelaw07.OrderRule', WHERE WHAT IT READS IS OF BULK AT MOST 1048576: true; the input reads as it did. -/
def orderRuleUptoRow : OpenClaim := { program := "ytacnbdnmkmpldaagreat", sum := "79b34953738a4556bc872eab509d9631f7cd3b9ad9ff24d3f528917974a11ef3", func := "quadrille/quadrillelaw07.OrderRule", spec := "orderRule", unfollowed := true, recurses := true, plainKeys := false, apart := false, narrowed := true }
def OrderRuleUptoSaid : Prop := orderRuleUptoRow.holds Tryz.pinned (OpenSpec.upto orderRuleSpec)

/-- 'quadrillelaw08.ModelAxioms', WHERE WHAT IT READS IS OF BULK AT MOST 1048576: true; the input reads as it did. -/
def modelAxiomsUptoRow : OpenClaim := { program := "ytacnbdnmkmpldaagreat", sum := "79b34953738a4556bc872eab509d9631f7cd3b9ad9ff24d3f528917974a11ef3", func := "quadrille/quadrillelaw08.ModelAxioms", spec := "modelAxioms", unfollowed := true, recurses := true, plainKeys := false, apart := false, narrowed := true }
def ModelAxiomsUptoSaid : Prop := modelAxiomsUptoRow.holds Tryz.pinned (OpenSpec.upto modelAxiomsSpec)

/-- 'quadrillelaw08.ModelJudge', WHERE WHAT IT READS IS OF BULK AT MOST 1048576: true; the input reads as it did. -/
def modelJudgeUptoRow : OpenClaim := { program := "ytacnbdnmkmpldaagreat", sum := "79b34953738a4556bc872eab509d9631f7cd3b9ad9ff24d3f528917974a11ef3", func := "quadrille/quadrillelaw08.ModelJudge", spec := "modelJudge", unfollowed := true, recurses := true, plainKeys := false, apart := false, narrowed := true }
def ModelJudgeUptoSaid : Prop := modelJudgeUptoRow.holds Tryz.pinned (OpenSpec.upto modelJudgeSpec)

/-- 'quadrillelaw08.ModelLess', WHERE WHAT IT READS IS OF BULK AT MOST 1048576: true; the input reads as it did. -/
def modelLessUptoRow : OpenClaim := { program := "ytacnbdnmkmpldaagreat", sum := "79b34953738a4556bc872eab509d9631f7cd3b9ad9ff24d3f528917974a11ef3", func := "quadrille/quadrillelaw08.ModelLess", spec := "modelLess", unfollowed := true, recurses := true, plainKeys := false, apart := false, narrowed := true }
def ModelLessUptoSaid : Prop := modelLessUptoRow.holds Tryz.pinned (OpenSpec.upto modelLessSpec)

/-- 'quadrillelaw08.ModelOne', WHERE WHAT IT READS IS OF BULK AT MOST 1048576: true; the input reads as it did. -/
def modelOneUptoRow : OpenClaim := { program := "ytacnbdnmkmpldaagreat", sum := "79b34953738a4556bc872eab509d9631f7cd3b9ad9ff24d3f528917974a11ef3", func := "quadrille/quadrillelaw08.ModelOne", spec := "modelOne", unfollowed := true, recurses := true, plainKeys := false, apart := false, narrowed := true }
def ModelOneUptoSaid : Prop := modelOneUptoRow.holds Tryz.pinned (OpenSpec.upto modelOneSpec)

/-- 'quadrillelaw08.ModelShapes', WHERE WHAT IT READS IS OF BULK AT MOST 1048576: true; the input reads as it did. -/
def modelShapesUptoRow : OpenClaim := { program := "ytacnbdnmkmpldaagreat", sum := "79b34953738a4556bc872eab509d9631f7cd3b9ad9ff24d3f528917974a11ef3", func := "quadrille/quadrillelaw08.ModelShapes", spec := "modelShapes", unfollowed := true, recurses := true, plainKeys := false, apart := false, narrowed := true }
def ModelShapesUptoSaid : Prop := modelShapesUptoRow.holds Tryz.pinned (OpenSpec.upto modelShapesSpec)

/-- 'quadrillelaw08.ModelPairs', WHERE WHAT IT READS IS OF BULK AT MOST 1048576: true; the input reads as it did. -/
def modelPairsUptoRow : OpenClaim := { program := "ytacnbdnmkmpldaagreat", sum := "79b34953738a4556bc872eab509d9631f7cd3b9ad9ff24d3f528917974a11ef3", func := "quadrille/quadrillelaw08.ModelPairs", spec := "modelPairs", unfollowed := true, recurses := true, plainKeys := false, apart := false, narrowed := true }
def ModelPairsUptoSaid : Prop := modelPairsUptoRow.holds Tryz.pinned (OpenSpec.upto modelPairsSpec)

/-- 'quadrillelaw08.ModelArrows', WHERE WHAT IT READS IS OF BULK AT MOST 1048576: true; the input reads as it did. -/
def modelArrowsUptoRow : OpenClaim := { program := "ytacnbdnmkmpldaagreat", sum := "79b34953738a4556bc872eab509d9631f7cd3b9ad9ff24d3f528917974a11ef3", func := "quadrille/quadrillelaw08.ModelArrows", spec := "modelArrows", unfollowed := true, recurses := true, plainKeys := false, apart := false, narrowed := true }
def ModelArrowsUptoSaid : Prop := modelArrowsUptoRow.holds Tryz.pinned (OpenSpec.upto modelArrowsSpec)

/-- 'quadrillelaw08.ModelGlobal', WHERE WHAT IT READS IS OF BULK AT MOST 1048576: true; the input reads as it did. -/
def modelGlobalUptoRow : OpenClaim := { program := "ytacnbdnmkmpldaagreat", sum := "79b34953738a4556bc872eab509d9631f7cd3b9ad9ff24d3f528917974a11ef3", func := "quadrille/quadrillelaw08.ModelGlobal", spec := "modelGlobal", unfollowed := true, recurses := true, plainKeys := false, apart := false, narrowed := true }
def ModelGlobalUptoSaid : Prop := modelGlobalUptoRow.holds Tryz.pinned (OpenSpec.upto modelGlobalSpec)

end Rows
end Go.Proofs.YtacnbdnmkmpldaaGreat
