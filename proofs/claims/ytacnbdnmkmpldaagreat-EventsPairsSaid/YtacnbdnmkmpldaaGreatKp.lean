import Derived.Test.YtacnbdnmkmpldaaGreatEvA
import Derived.RangeFuncBox
import Derived.RangeFuncLeaves
import Derived.RangeFuncNested
import Derived.OwnWalkIn
import Derived.TacticsInMore
import Derived.LoopNIn
import Derived.LoopIn
import Derived.Maps.AppendAt
import Derived.Lib.SlKeysI
/-! What a round over an iterator must keep. -/
namespace Go.Proofs.YtacnbdnmkmpldaaGreat
open Go Go.Proofs Go.RowKit Go.Sort Q
set_option linter.unusedSimpArgs false
set_option linter.unusedVariables false
/-- What a round must keep: what lay below, and the walks of maps. -/
def Kp (n0 : Nat) (A B : World) : Prop := Below n0 A B ∧ KeepsWalks A B
theorem Kp.t {n0 : Nat} {A B C : World} (h : Kp n0 A B) (k : Kp n0 B C) : Kp n0 A C := ⟨h.1.trans k.1, h.2.trans k.2⟩
theorem Kp.b {n0 : Nat} {w : World} (h : n0 ≤ w.heap.size) (W : World) (l : Nat) (o o' : Obj) (hl : w.heap.size ≤ l) (hL : W.heap[l]? = some o) (h1 : o.isCells = false) (h2 : o.isWalk = false) : Kp n0 W (W.putObj l o') :=
  ⟨belowK_b h W l o o' hl hL h1 h2, KeepsWalks.putObj _ hL h2⟩
theorem Kp.refl (n0 : Nat) (A : World) : Kp n0 A A := ⟨Below.refl _ _, KeepsWalks.refl _⟩

end Go.Proofs.YtacnbdnmkmpldaaGreat
