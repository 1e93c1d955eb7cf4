/- events.Same. -/
import Derived.Test.YtacnbdnmkmpldaaSmF
namespace Go.Proofs.Ytacnbdnmkmpldaa
open Go Go.Proofs Go.RowKit Q
set_option linter.unusedSimpArgs false
set_option linter.unusedVariables false

/-- Are two executions the same? -/
def exB (x y : Ex) : Bool := decide (x.evs = y.evs) && decide (x.src = y.src) && decide (x.order = y.order)
theorem exB_self (x : Ex) : exB x x = true := by simp [exB]

set_option maxRecDepth 100000 in
set_option maxHeartbeats 4000000 in
theorem exSame_any (x y : Ex) (Ae Af Ao Be Bf Bo : Option Addr) (ce cf co de df do_ : Nat) (w : World) (he : Evs w Ae x.evs) (hf : Ints w Af x.src) (ho : Q.Rows w Ao x.order) (ge : Evs w Be y.evs) (gf : Ints w Bf y.src) (go : Q.Rows w Bo y.order) :
    Calls Try.prog 21 #[.agg #[.slice Ae x.evs.length ce, .slice Af x.src.length cf, .slice Ao x.order.length co], .agg #[.slice Be y.evs.length de, .slice Bf y.src.length df, .slice Bo y.order.length do_]] w fun r w' =>
      r = .returned (.bool (exB x y)) ∧ Below w.heap.size w w' := by
  go_enter Try.func21, Try.ntmps21
  go_upto_region 1 with (fail)
  obtain ⟨W0, s0, hW0, hbx, hsz, b0, b1, b2⟩ := box3 w 26 (.slice Ae x.evs.length ce) (.slice Af x.src.length cf) (.slice Ao x.order.length co)
  rw [hW0]
  obtain ⟨W1, s1, hW1, hbx1, hsz1, c0, c1, c2⟩ := box3 s0.val 26 (.slice Be y.evs.length de) (.slice Bf y.src.length df) (.slice Bo y.order.length do_)
  rw [hW1]
  have hs0 : s0.val.heap.size = w.heap.size + 1 := by rw [← hW0]; simp
  rw [hs0] at c0 c1 c2
  clear hW0 hW1
  have b0' : ∀ s : Fut W1, s.val.cell? ⟨w.heap.size, 0, none⟩ = some (.slice Ae x.evs.length ce) := fun s => b0 (s0.up hbx1 s)
  have b1' : ∀ s : Fut W1, s.val.cell? ⟨w.heap.size, 1, none⟩ = some (.slice Af x.src.length cf) := fun s => b1 (s0.up hbx1 s)
  have b2' : ∀ s : Fut W1, s.val.cell? ⟨w.heap.size, 2, none⟩ = some (.slice Ao x.order.length co) := fun s => b2 (s0.up hbx1 s)
  have hB1 : Below w.heap.size w W1 := hbx.trans ((s0.below.mono (Nat.le_of_lt hsz)).trans (hbx1.mono (Nat.le_trans hbx.size s0.below.size)))
  have h1 : ∀ s : Fut W1, Evs s.val Ae x.evs := fun s => (he.below hB1).fut s
  have h2 : ∀ s : Fut W1, Ints s.val Af x.src := fun s => (hf.below hB1).fut s
  have h3 : ∀ s : Fut W1, Q.Rows s.val Ao x.order := fun s => (ho.below hB1).fut s
  have h4 : ∀ s : Fut W1, Evs s.val Be y.evs := fun s => (ge.below hB1).fut s
  have h5 : ∀ s : Fut W1, Ints s.val Bf y.src := fun s => (gf.below hB1).fut s
  have h6 : ∀ s : Fut W1, Q.Rows s.val Bo y.order := fun s => (go.below hB1).fut s
  have hend : ∀ s : Fut W1, Below w.heap.size w s.val := fun s => hB1.trans (s.below.mono hB1.size)
  have HEND := Lib.hid hend
  clear b0 b1 b2 he hf ho ge gf go hend hbx hbx1 hB1 hsz hsz1
  refine wp_region_futps s1 ?_
  repeat (first
    | (refine wpQuiet_or rfl rfl rfl rfl ?_; simp only [Act.put, List.setIfInBounds_toArray, List.set_cons_succ, List.set_cons_zero])
    | (refine wpQuiet_and rfl rfl rfl rfl ?_; simp only [Act.put, List.setIfInBounds_toArray, List.set_cons_succ, List.set_cons_zero])
    | go_big_quiet_skip
    | (go_big_quiet_want; go_big_quiet_op; first | go_big_quiet_on | go_big_quiet_call ((first | (go_at_call 40; exact fut_callS _ (equalI_any _ _ _ _ _ _ _ (h2 _) (h5 _))) | (go_at_call 38; exact fut_callS _ (equalE_any _ _ _ _ _ _ _ (h1 _) (h4 _))) | (go_at_call 41; exact fut_callS _ (equalR_any _ _ _ _ _ _ _ (h3 _) (h6 _))))))
    | (refine wpQuiet_dead (by first | exact wanted_t rfl rfl rfl | exact wanted_f rfl rfl rfl | exact wanted_ts rfl rfl rfl | exact wanted_fs rfl rfl rfl) rfl (of_decide_eq_true rfl) (by simp only [Bool.not_true, Bool.and_false, Bool.false_and, Bool.or_true, Bool.true_or]) ?_; simp only [Act.put, List.setIfInBounds_toArray, List.set_cons_succ, List.set_cons_zero])
    | (refine wpQuiet_or_und rfl (by first | exact wanted_t rfl rfl rfl | exact wanted_f rfl rfl rfl | exact wanted_ts rfl rfl rfl | exact wanted_fs rfl rfl rfl) rfl (of_decide_eq_true rfl) rfl rfl ?_; simp only [Act.put, List.setIfInBounds_toArray, List.set_cons_succ, List.set_cons_zero])
    | (refine wpQuiet_and_und rfl (by first | exact wanted_t rfl rfl rfl | exact wanted_f rfl rfl rfl | exact wanted_ts rfl rfl rfl | exact wanted_fs rfl rfl rfl) rfl (of_decide_eq_true rfl) rfl rfl ?_; simp only [Act.put, List.setIfInBounds_toArray, List.set_cons_succ, List.set_cons_zero])
    | (refine wpQuiet_und (by first | exact wanted_t rfl rfl rfl | exact wanted_f rfl rfl rfl | exact wanted_ts rfl rfl rfl | exact wanted_fs rfl rfl rfl) rfl (of_decide_eq_true rfl) ?_
       apply Exists.intro
       refine ⟨fun hb => ?_, ?_⟩
       · (skip)
         (try simp only [sel_of hb])
         (try (have hb1 := and_l hb; (try simp only [sel_of hb1]); (try (have hb2 := and_l hb1; (try simp only [sel_of hb2]); (try (have hb3 := and_l hb2; (try simp only [sel_of hb3])))))))
         go_big_quiet_op
         first | ((show Act.eval _ (Operand.tmp _) = _); conv => (lhs; whnf)) | (apply Exists.intro; refine ⟨fun _ => ?_, ?_⟩; (focus (first | (go_at_call 40; exact fut_callS _ (equalI_any _ _ _ _ _ _ _ (h2 _) (h5 _))) | (go_at_call 38; exact fut_callS _ (equalE_any _ _ _ _ _ _ _ (h1 _) (h4 _))) | (go_at_call 41; exact fut_callS _ (equalR_any _ _ _ _ _ _ _ (h3 _) (h6 _))))); ((show Act.eval _ (Operand.tmp _) = _); conv => (lhs; whnf)))
       simp only [Act.put, List.setIfInBounds_toArray, List.set_cons_succ, List.set_cons_zero]))
  refine wpQuiet_nil ?_
  intro s2
  go_wp2
  go_ret
  exact ⟨ret_bool rfl, HEND.out s2⟩
end Go.Proofs.Ytacnbdnmkmpldaa
