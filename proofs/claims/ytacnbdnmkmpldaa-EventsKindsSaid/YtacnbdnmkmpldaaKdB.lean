/- EventsKinds, whatever the arguments. No condition. -/
import Derived.Test.YtacnbdnmkmpldaaRows
import Derived.Test.YtacnbdnmkmpldaaKdA
import Derived.Test.YtacnbdnmkmpldaaMem
import Derived.WalkKit
import Derived.ProofKit
import Derived.OpenShut
import Derived.ShutString
import Derived.ChangeOld
import Derived.Below
namespace Go.Proofs.Ytacnbdnmkmpldaa.EventsKindsDone
open Go Go.Proofs Go.ChangeShapes Go.WideShapes Go.ChangeAt Go.RowKit Q
set_option linter.unusedSimpArgs false
set_option linter.unusedVariables false
open Go.ChangeMaps (open_string shut_string)

theorem own : ownKnob Try.prog.godebug = none := by kernel_rfl
theorem laidOut : laidOutB Try.prog = true := by kernel_rfl
theorem exTypes : ExTypes Try.prog 26 :=
  ⟨_, 22, 44, 23, 24, 3, Try.underlying26, by kernel_rfl, by kernel_rfl, by kernel_rfl, Try.underlying22,
    ⟨_, 3, 41, 42, 4, 23, Try.underlying44, by kernel_rfl, by kernel_rfl, by kernel_rfl, Try.underlying3, Try.underlying41, Try.underlying42, Try.underlying4, Try.underlying23, by kernel_rfl, by kernel_rfl⟩,
    of_decide_eq_true (by kernel_rfl), Try.underlying23, Try.underlying3, by kernel_rfl, by kernel_rfl, Try.underlying24, by kernel_rfl, of_decide_eq_true (by kernel_rfl)⟩
theorem fits_of {H : Type} {P : Program} {ts : List TypeId} {ds : List (DataW H)} (h : (DataW.weightsEach P ts ds).all (· ≤ reachBytes) = true) {j : Nat} {t : TypeId} {d : DataW H} (ht : ts[j]? = some t) (hd : ds[j]? = some d) : Fits P t d :=
  fun n hn => by simpa using List.all_eq_true.1 h n (DataW.weights_mem_each ht hd n hn)

set_option maxRecDepth 100000 in
theorem lifted (os : Os) (started : os.Started) (H : Type) (enc : TypeId × Value → H) :
    ReturnsInHanded {} Try.checked os 7 .any (Rows.eventsKindsSpec.pre6 enc Try.prog Try.f7 Rows.eventsKindsRow.domain false) (Rows.eventsKindsSpec.post enc Try.prog Try.f7 false true false false) := by
  refine returnsInHanded_of_change_sized (C := Try.checked) own started (by kernel_rfl) Try.func7
    (ChangeSpec.witness6 (enc := enc) (C := Try.checked) false ⟨#[], #[.agg #[.slice none 0 0, .slice none 0 0, .slice none 0 0], .agg #[.slice none 0 0, .slice none 0 0, .slice none 0 0]], []⟩ 8 (by kernel_rfl) (by kernel_rfl) (by kernel_rfl) (by kernel_rfl)) ?_
  intro W base args ds gs before hval0 hW hcnd hsz0 _
  have hval : ∀ (j : Nat) t v, Try.f7.params[j]? = some t → args[j]? = some v → Value.okWide Try.prog W .any base t v := hval0
  have hsz : (DataW.weightsEach Try.prog (Try.f7.params.toList ++ Rows.eventsKindsSpec.plain.varTypes Try.prog) (ds ++ gs)).all (· ≤ reachBytes) = true := hsz0
  have hW' := hW
  obtain ⟨p, q, hA0, hV, rfl, hfz, hnd⟩ := hW
  have hA : DataW.TrodAll enc Try.prog W 0 (fun _ => true) true Try.f7.params.toList args.toList ds p := hA0
  rw [Try.params7] at hA hval hsz
  obtain ⟨v0, vs0, d0, ds0, p0, q0, hargs, rfl, rfl, h0, r0⟩ := trodAll_cons hA
  obtain ⟨v1, vs1, d1, ds1, p1, q1, rfl, rfl, rfl, h1, r1⟩ := trodAll_cons r0
  obtain ⟨rfl, rfl, rfl⟩ := trodAll_nil r1
  obtain rfl : args = #[v0, v1] := by cases args; simp_all
  obtain ⟨rfl, rfl⟩ := trodVars_none hV
  have k0 := h0
  have k1 := h1
  have lt0 : ∀ x ∈ p0, x.block < W.heap.size := by obtain ⟨m, hm⟩ := k0; exact DataW.trod_lt m _ _ _ hm
  have lt1 : ∀ x ∈ p1, x.block < W.heap.size := by obtain ⟨m, hm⟩ := k1; exact DataW.trod_lt m _ _ _ hm
  have fit0 := fits_of hsz (j := 0) rfl rfl
  have fit1 := fits_of hsz (j := 1) rfl rfl
  obtain ⟨cs, rfl, _⟩ := okWide_struct Try.underlying26 (hval 0 26 v0 rfl rfl)
  obtain ⟨cs', rfl, _⟩ := okWide_struct Try.underlying26 (hval 1 26 v1 rfl rfl)
  obtain ⟨fuel0, hf0⟩ := h0
  obtain ⟨fuel1, hf1⟩ := h1
  obtain ⟨x, Ae, Af, Ao, ce, cf, co, hcs, hx, hok⟩ := lift_ex exTypes hf0 fit0
  obtain ⟨y, Be, Bf, Bo, de, df, do_, hcs', hy, hoky⟩ := lift_ex exTypes hf1 fit1
  obtain rfl : cs = #[.slice Ae x.evs.length ce, .slice Af x.src.length cf, .slice Ao x.order.length co] := by
    apply Array.ext'
    simpa [Value.cells] using hcs
  obtain rfl : cs' = #[.slice Be y.evs.length de, .slice Bf y.src.length df, .slice Bo y.order.length do_] := by
    apply Array.ext'
    simpa [Value.cells] using hcs'
  clear hA0 hval0
  refine (evKinds_walk x y Ae Af Ao Be Bf Bo ce cf co de df do_ W hx.evs hx.src hx.order hy.evs hy.src hy.order).mono fun e W' ⟨he, bel⟩ => ?_
  subst he
  exact ⟨_, rfl, _, _, _, [], _, [], hW', trodAll_mk1 (shut_bool Try.underlying4 _), (trodAll_cons_mk (Below.trod laidOut (by kernel_rfl) (of_decide_eq_true (by kernel_rfl)) k0 bel lt0) (trodAll_cons_mk (Below.trod laidOut (by kernel_rfl) (of_decide_eq_true (by kernel_rfl)) k1 bel lt1) trodAll_mk0)), rfl, bel.frame _, fun h => by cases h⟩

theorem over : Rows.eventsKindsRow.holds Try.pinned (OpenSpec.ofChange Rows.eventsKindsSpec) :=
  OpenClaim.holds_of_wide 7 Try.f7 rfl rfl rfl rfl rfl rfl rfl ⟨rfl, rfl, rfl, rfl, rfl⟩ rfl rfl rfl rfl rfl (by kernel_rfl) Try.func7 (by kernel_rfl)
    (of_decide_eq_true (by kernel_rfl)) (by unfold Func.isWrapper; first | (rw [if_pos (by decide +kernel)]; kernel_rfl) | (rw [if_neg (by decide +kernel)]; exact ⟨rfl, rfl⟩))
    (fun os started H enc _ => lifted os started H enc)
end Go.Proofs.Ytacnbdnmkmpldaa.EventsKindsDone
namespace Go.Proofs.Ytacnbdnmkmpldaa
/-- EventsKinds. -/
theorem eventsKinds_holds : Rows.EventsKindsSaid := EventsKindsDone.over
#print axioms eventsKinds_holds
end Go.Proofs.Ytacnbdnmkmpldaa
