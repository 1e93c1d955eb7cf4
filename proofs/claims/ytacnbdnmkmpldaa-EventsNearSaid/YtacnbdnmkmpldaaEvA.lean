/- What the small functions of package events tell: which events store, load; on what an event may hang. -/
import Derived.Test.YtacnbdnmkmpldaaProg
import Derived.Test.YtacnbdnmkmpldaaMem
import Derived.Test.YtacnbdnmkmpldaaLex
import Derived.WalkKit
import Derived.Outline
import Derived.Lib.Hide
namespace Go.Proofs.Ytacnbdnmkmpldaa
open Go.RowKit Q
set_option linter.unusedSimpArgs false
set_option linter.unusedVariables false

set_option maxRecDepth 100000 in
theorem loads_any (h k a v r : Int) (aq rl rs : Bool) (p s : Int) (A D C : Value) (w : World) :
    Calls Try.prog 19 #[.agg #[.int .i64 h, .int .i64 k, .int .u32 a, .int .u32 v, .int .u32 r, .bool aq, .bool rl, .int .i64 p, .int .i64 s, .bool rs, A, D, C]] w fun e w' =>
      e = .returned (.bool (k == 1 || k == 3)) ∧ Below w.heap.size w w' := by
  go_enter Try.func19, Try.ntmps19
  go_wp2
  all_goals
    go_ret
    exact ⟨by simp [*], (Below.refl _ _).alloc (Nat.le_refl _) _⟩

set_option maxRecDepth 100000 in
theorem stores_any (h k a v r : Int) (aq rl rs : Bool) (p s : Int) (A D C : Value) (w : World) :
    Calls Try.prog 17 #[.agg #[.int .i64 h, .int .i64 k, .int .u32 a, .int .u32 v, .int .u32 r, .bool aq, .bool rl, .int .i64 p, .int .i64 s, .bool rs, A, D, C]] w fun e w' =>
      e = .returned (.bool (k == 2 || k == 3 || k == 5)) ∧ Below w.heap.size w w' := by
  go_enter Try.func17, Try.ntmps17
  go_wp2
  all_goals
    go_ret
    exact ⟨by simp [*], (Below.refl _ _).alloc (Nat.le_refl _) _⟩

set_option maxRecDepth 100000 in
theorem rloads_any (h k a v r : Int) (aq rl rs : Bool) (p s : Int) (A D C : Value) (w : World) :
    Calls Try.prog 20 #[.agg #[.int .i64 h, .int .i64 k, .int .u32 a, .int .u32 v, .int .u32 r, .bool aq, .bool rl, .int .i64 p, .int .i64 s, .bool rs, A, D, C]] w fun e w' =>
      e = .returned (.bool (k == 1 || k == 3)) ∧ Below w.heap.size w w' := by
  go_enter Try.func20, Try.ntmps20
  go_wp2
  all_goals
    go_ret
    exact ⟨by simp [*], (Below.refl _ _).alloc (Nat.le_refl _) _⟩

set_option maxRecDepth 100000 in
theorem rstores_any (h k a v r : Int) (aq rl rs : Bool) (p s : Int) (A D C : Value) (w : World) :
    Calls Try.prog 18 #[.agg #[.int .i64 h, .int .i64 k, .int .u32 a, .int .u32 v, .int .u32 r, .bool aq, .bool rl, .int .i64 p, .int .i64 s, .bool rs, A, D, C]] w fun e w' =>
      e = .returned (.bool (k == 2 || k == 3 || k == 5)) ∧ Below w.heap.size w w' := by
  go_enter Try.func18, Try.ntmps18
  go_wp2
  all_goals
    go_ret
    exact ⟨by simp [*], (Below.refl _ _).alloc (Nat.le_refl _) _⟩

end Go.Proofs.Ytacnbdnmkmpldaa
