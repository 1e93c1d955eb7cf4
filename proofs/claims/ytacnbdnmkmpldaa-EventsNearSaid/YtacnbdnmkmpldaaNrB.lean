/- EventsNear, whatever the execution: whether it may be with one part otherwise, each part in turn, is what the document says. No condition. -/
import Derived.Test.YtacnbdnmkmpldaaRows
import Derived.Test.YtacnbdnmkmpldaaNrA
import Derived.Test.YtacnbdnmkmpldaaMem
import Derived.WalkKit
import Derived.ProofKit
import Derived.OpenShut
import Derived.ShutString
import Derived.ChangeOld
import Derived.Below
namespace Go.Proofs.Ytacnbdnmkmpldaa.EventsNearDone
open Go Go.Proofs Go.ChangeShapes Go.WideShapes Go.ChangeAt Go.RowKit Q
set_option linter.unusedSimpArgs false
set_option linter.unusedVariables false
open Go.ChangeMaps (open_string shut_string)

theorem own : ownKnob Try.prog.godebug = none := by kernel_rfl
theorem laidOut : laidOutB Try.prog = true := by kernel_rfl
theorem exTypes : ExTypes Try.prog 26 :=
  ⟨_, 22, 44, 23, 24, 3, Try.underlying26, by kernel_rfl, by kernel_rfl, by kernel_rfl, Try.underlying22,
    ⟨_, 3, 41, 42, 4, 23, Try.underlying44, by kernel_rfl, by kernel_rfl, by kernel_rfl, Try.underlying3, Try.underlying41, Try.underlying42, Try.underlying4, Try.underlying23, by kernel_rfl, by kernel_rfl⟩,
    of_decide_eq_true (by kernel_rfl), Try.underlying23, Try.underlying3, by kernel_rfl, by kernel_rfl, Try.underlying24, by kernel_rfl, of_decide_eq_true (by kernel_rfl)⟩
theorem fits_of {H : Type} {P : Program} {ts : List TypeId} {ds : List (DataW H)} (h : (DataW.weightsEach P ts ds).all (· ≤ reachBytes) = true) {j : Nat} {t : TypeId} {d : DataW H} (ht : ts[j]? = some t) (hd : ds[j]? = some d) : Fits P t d :=
  fun n hn => by simpa using List.all_eq_true.1 h n (DataW.weights_mem_each ht hd n hn)

set_option maxRecDepth 100000 in
theorem lifted (os : Os) (started : os.Started) (H : Type) (enc : TypeId × Value → H) :
    ReturnsInHanded {} Try.checked os 6 .any (Rows.eventsNearSpec.pre6 enc Try.prog Try.f6 Rows.eventsNearRow.domain false) (Rows.eventsNearSpec.post enc Try.prog Try.f6 false true false false) := by
  refine returnsInHanded_of_change_sized (C := Try.checked) own started (by kernel_rfl) Try.func6
    (ChangeSpec.witness6 (enc := enc) (C := Try.checked) false ⟨#[], #[.agg #[.slice none 0 0, .slice none 0 0, .slice none 0 0]], []⟩ 8 (by kernel_rfl) (by kernel_rfl) (by kernel_rfl) (by kernel_rfl)) ?_
  intro W base args ds gs before hval0 hW hcnd hsz0 _
  have hval : ∀ (j : Nat) t v, Try.f6.params[j]? = some t → args[j]? = some v → Value.okWide Try.prog W .any base t v := hval0
  have hsz : (DataW.weightsEach Try.prog (Try.f6.params.toList ++ Rows.eventsNearSpec.plain.varTypes Try.prog) (ds ++ gs)).all (· ≤ reachBytes) = true := hsz0
  have hW' := hW
  obtain ⟨p, q, hA0, hV, rfl, hfz, hnd⟩ := hW
  have hA : DataW.TrodAll enc Try.prog W 0 (fun _ => true) true Try.f6.params.toList args.toList ds p := hA0
  rw [Try.params6] at hA hval hsz
  obtain ⟨v0, vs0, d0, ds0, p0, q0, hargs, rfl, rfl, h0, r0⟩ := trodAll_cons hA
  obtain ⟨rfl, rfl, rfl⟩ := trodAll_nil r0
  obtain rfl : args = #[v0] := by cases args; simp_all
  obtain ⟨rfl, rfl⟩ := trodVars_none hV
  obtain ⟨cs, rfl, _⟩ := okWide_struct Try.underlying26 (hval 0 26 v0 rfl rfl)
  have k0 := h0
  have lt0 : ∀ x ∈ p0, x.block < W.heap.size := by obtain ⟨m, hm⟩ := k0; exact DataW.trod_lt m _ _ _ hm
  have hfit : Fits Try.prog 26 d0 := fits_of hsz (j := 0) rfl rfl
  obtain ⟨fuel, hf⟩ := h0
  obtain ⟨x, Ae, Af, Ao, ce, cf, co, hcs, hx, hok⟩ := lift_ex exTypes hf hfit
  obtain rfl : cs = #[.slice Ae x.evs.length ce, .slice Af x.src.length cf, .slice Ao x.order.length co] := by
    apply Array.ext'
    simpa [Value.cells] using hcs
  clear hA0 hval0
  refine (evNear_walk x hok Ae Af Ao ce cf co W hx.evs hx.src hx.order).mono fun e W' ⟨he, bel⟩ => ?_
  subst he
  exact ⟨_, rfl, _, _, _, [], _, [], hW', trodAll_mk1 (shut_bool Try.underlying4 _), (trodAll_cons_mk (Below.trod laidOut (by kernel_rfl) (of_decide_eq_true (by kernel_rfl)) k0 bel lt0) trodAll_mk0), rfl, bel.frame _, fun h => by cases h⟩

theorem over : Rows.eventsNearRow.holds Try.pinned (OpenSpec.ofChange Rows.eventsNearSpec) :=
  OpenClaim.holds_of_wide 6 Try.f6 rfl rfl rfl rfl rfl rfl rfl ⟨rfl, rfl, rfl, rfl, rfl⟩ rfl rfl rfl rfl rfl (by kernel_rfl) Try.func6 (by kernel_rfl)
    (of_decide_eq_true (by kernel_rfl)) (by unfold Func.isWrapper; first | (rw [if_pos (by decide +kernel)]; kernel_rfl) | (rw [if_neg (by decide +kernel)]; exact ⟨rfl, rfl⟩))
    (fun os started H enc _ => lifted os started H enc)
end Go.Proofs.Ytacnbdnmkmpldaa.EventsNearDone
namespace Go.Proofs.Ytacnbdnmkmpldaa
/-- EventsNear. -/
theorem eventsNear_holds : Rows.EventsNearSaid := EventsNearDone.over
#print axioms eventsNear_holds
end Go.Proofs.Ytacnbdnmkmpldaa
