/- EventsCheck: the law's walk. -/
import Derived.Test.YtacnbdnmkmpldaaRCh
import Derived.Test.YtacnbdnmkmpldaaWd
import Derived.Test.YtacnbdnmkmpldaaKn
namespace Go.Proofs.Ytacnbdnmkmpldaa
open Go Go.Proofs Go.RowKit Q
set_option linter.unusedSimpArgs false
set_option linter.unusedVariables false

theorem lexLawCheck : Region.lexB .any (opsOf Try.f3 3) = true := by kernel_rfl

set_option maxRecDepth 100000 in
set_option maxHeartbeats 2000000 in
theorem evCheck_walk (x : Ex) (hok : ExOk x) (Ae Af Ao : Option Addr) (ce cf co : Nat) (w : World) (he : Evs w Ae x.evs) (hf : Ints w Af x.src) (ho : Q.Rows w Ao x.order) :
    Calls Try.prog 3 #[.agg #[.slice Ae x.evs.length ce, .slice Af x.src.length cf, .slice Ao x.order.length co]] w fun r w' => r = .returned (.bool true) ∧ Below w.heap.size w w' := by
  go_enter Try.func3, Try.ntmps3
  go_upto_region 1 with (fail)
  obtain ⟨W0, s0, hW0, hbx, hsz, b0, b1, b2⟩ := box3 w 26 (.slice Ae x.evs.length ce) (.slice Af x.src.length cf) (.slice Ao x.order.length co)
  rw [hW0]
  clear hW0
  have he0 := he.below hbx
  have hf1 := hf.below hbx
  have ho1 := ho.below hbx
  have hend : ∀ s : Fut W0, Below w.heap.size w s.val := fun s => hbx.trans (s.below.mono (Nat.le_of_lt hsz))
  have HEND := Lib.hid hend
  clear hend he hf ho
  have d0 := b0 s0
  have d1 := b1 s0
  have d2 := b2 s0
  go_wp2_with fail
  refine (wide_any x Ae Af Ao ce cf co _ (he0.fut s0) (hf1.fut s0) (ho1.fut s0)).mono ?_
  rintro e w1 ⟨b, rfl, _, hb1⟩
  obtain ⟨s1, rfl⟩ : ∃ s1 : Fut W0, w1 = s1.val := ⟨⟨w1, s0.below.trans (hb1.mono s0.below.size)⟩, rfl⟩
  clear hb1 d0 d1 d2
  cases b
  case true =>
    go_wp2_with (go_at_call 10; refine (known_any _).mono ?_; rintro e w' ⟨rfl, hb⟩)
    go_ret
    exact ⟨rfl, (HEND.out s1).trans (hb.mono (HEND.out s1).size)⟩
  case false =>
    have hes : ∀ s : Fut W0, Evs s.val Ae x.evs := fun s => he0.fut s
    have hfs : ∀ s : Fut W0, Ints s.val Af x.src := fun s => hf1.fut s
    have hos : ∀ s : Fut W0, Q.Rows s.val Ao x.order := fun s => ho1.fut s
    have hck : ∀ s : Fut W0, Calls Try.prog 11 #[.agg #[.slice Ae x.evs.length ce, .slice Af x.src.length cf, .slice Ao x.order.length co]] s.val fun r w' => r = .returned (.int .i64 (checkV x)) ∧ Below s.val.heap.size s.val w' := fun s => check_any x hok Ae Af Ao ce cf co s.val (hes s) (hfs s) (hos s)
    have hrc : ∀ s : Fut W0, Calls Try.prog 12 #[.agg #[.slice Ae x.evs.length ce, .slice Af x.src.length cf, .slice Ao x.order.length co]] s.val fun r w' => r = .returned (.int .i64 (checkV x)) ∧ Below s.val.heap.size s.val w' := fun s => rcheck_any x hok Ae Af Ao ce cf co s.val (hes s) (hfs s) (hos s)
    generalize checkV x = cv at hck hrc
    have HCK := Lib.hid hck
    have HRC := Lib.hid hrc
    have hq : (cv == cv) = true := by simp
    clear hck hrc hes hfs hos he0 hf1 ho1
    go_upto_region 3 with (fail)
    refine wp_region_futs s1 (by kernel_rfl) (lexOf lexLawCheck (by kernel_rfl)) ?_
    repeat (go_big_quiet_step (first | (go_at_call 11; exact fut_callS _ (HCK.out _)) | (go_at_call 12; exact fut_callS _ (HRC.out _)) | (go_at_call 10; exact fut_callS _ (known_any _))))
    refine wpQuiet_nil ?_
    intro s2
    go_wp2
    go_ret
    exact ⟨by simp, HEND.out s2⟩
end Go.Proofs.Ytacnbdnmkmpldaa
