/- What the small functions of package events tell: which events store, load; on what an event may hang. -/
import Derived.Test.YtacnbdnmkmpldaaGreatProg
import Derived.Test.YtacnbdnmkmpldaaGreatMem
import Derived.Test.YtacnbdnmkmpldaaGreatLex
import Derived.WalkKit
import Derived.Outline
import Derived.Lib.Hide
namespace Go.Proofs.YtacnbdnmkmpldaaGreat
open Go.RowKit Q
set_option linter.unusedSimpArgs false
set_option linter.unusedVariables false

set_option maxRecDepth 100000 in
theorem loads_any (h k a v r : Int) (aq rl rs : Bool) (p s : Int) (A D C : Value) (w : World) :
    Calls Tryz.prog 104 #[.agg #[.int .i64 h, .int .i64 k, .int .u32 a, .int .u32 v, .int .u32 r, .bool aq, .bool rl, .int .i64 p, .int .i64 s, .bool rs, A, D, C]] w fun e w' =>
      e = .returned (.bool (k == 1 || k == 3)) ∧ Below w.heap.size w w' := by
  go_enter Tryz.func104, Tryz.ntmps104
  go_wp2
  all_goals
    go_ret
    exact ⟨by simp [*], (Below.refl _ _).alloc (Nat.le_refl _) _⟩

set_option maxRecDepth 100000 in
theorem stores_any (h k a v r : Int) (aq rl rs : Bool) (p s : Int) (A D C : Value) (w : World) :
    Calls Tryz.prog 102 #[.agg #[.int .i64 h, .int .i64 k, .int .u32 a, .int .u32 v, .int .u32 r, .bool aq, .bool rl, .int .i64 p, .int .i64 s, .bool rs, A, D, C]] w fun e w' =>
      e = .returned (.bool (k == 2 || k == 3 || k == 5)) ∧ Below w.heap.size w w' := by
  go_enter Tryz.func102, Tryz.ntmps102
  go_wp2
  all_goals
    go_ret
    exact ⟨by simp [*], (Below.refl _ _).alloc (Nat.le_refl _) _⟩

set_option maxRecDepth 100000 in
theorem rloads_any (h k a v r : Int) (aq rl rs : Bool) (p s : Int) (A D C : Value) (w : World) :
    Calls Tryz.prog 64 #[.agg #[.int .i64 h, .int .i64 k, .int .u32 a, .int .u32 v, .int .u32 r, .bool aq, .bool rl, .int .i64 p, .int .i64 s, .bool rs, A, D, C]] w fun e w' =>
      e = .returned (.bool (k == 1 || k == 3)) ∧ Below w.heap.size w w' := by
  go_enter Tryz.func64, Tryz.ntmps64
  go_wp2
  all_goals
    go_ret
    exact ⟨by simp [*], (Below.refl _ _).alloc (Nat.le_refl _) _⟩

set_option maxRecDepth 100000 in
theorem rstores_any (h k a v r : Int) (aq rl rs : Bool) (p s : Int) (A D C : Value) (w : World) :
    Calls Tryz.prog 65 #[.agg #[.int .i64 h, .int .i64 k, .int .u32 a, .int .u32 v, .int .u32 r, .bool aq, .bool rl, .int .i64 p, .int .i64 s, .bool rs, A, D, C]] w fun e w' =>
      e = .returned (.bool (k == 2 || k == 3 || k == 5)) ∧ Below w.heap.size w w' := by
  go_enter Tryz.func65, Tryz.ntmps65
  go_wp2
  all_goals
    go_ret
    exact ⟨by simp [*], (Below.refl _ _).alloc (Nat.le_refl _) _⟩

end Go.Proofs.YtacnbdnmkmpldaaGreat
