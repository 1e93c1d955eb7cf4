/- events.Rf. -/
import Derived.Test.YtacnbdnmkmpldaaGreatEvP
import Derived.Test.YtacnbdnmkmpldaaGreatEvR
import Derived.Test.YtacnbdnmkmpldaaGreatEvH
import Derived.Test.YtacnbdnmkmpldaaGreatPure
namespace Go.Proofs.YtacnbdnmkmpldaaGreat
open Go Go.Proofs Go.RowKit Go.Sort Q
set_option linter.unusedSimpArgs false
set_option linter.unusedVariables false

theorem rf_yes {x : Ex} (h : checkV x = 0) : rfV x = sortP (rfL x) := by unfold rfV; rw [if_pos h]
theorem rf_no {x : Ex} (h : ¬ checkV x = 0) : rfV x = [] := by unfold rfV; rw [if_neg h]

set_option maxRecDepth 100000 in
set_option maxHeartbeats 2000000 in
theorem rf_any (x : Ex) (hok : ExOk x) (Ae Af Ao : Option Addr) (ce cf co : Nat) (w : World) (he : Evs w Ae x.evs) (hf : Ints w Af x.src) (ho : Q.Rows w Ao x.order) :
    Calls Tryz.prog 23 #[.agg #[.slice Ae x.evs.length ce, .slice Af x.src.length cf, .slice Ao x.order.length co]] w fun r w' =>
      ∃ A c, r = .returned (.slice A (rfV x).length c) ∧ Prs w' A (rfV x) ∧ Below w.heap.size w w' := by
  go_enter Tryz.func23, Tryz.ntmps23
  go_upto_region 1 with (fail)
  obtain ⟨W0, s0, hW0, hbx, hsz, b0, b1, b2⟩ := box3 w 26 (.slice Ae x.evs.length ce) (.slice Af x.src.length cf) (.slice Ao x.order.length co)
  rw [hW0]
  clear hW0
  have he0 := he.below hbx
  have hf1 := hf.below hbx
  have ho1 := ho.below hbx
  have hend : ∀ s : Fut W0, Below w.heap.size w s.val := fun s => hbx.trans (s.below.mono (Nat.le_of_lt hsz))
  have HEND := Lib.hid hend
  clear hend he hf ho
  have hes := he0.fut s0
  have hfs := hf1.fut s0
  have hos := ho1.fut s0
  have d0 := b0 s0
  have d1 := b1 s0
  have d2 := b2 s0
  go_wp2_with fail
  refine (check_any x hok Ae Af Ao ce cf co _ hes hfs hos).mono ?_
  rintro e w1 ⟨rfl, hb1⟩
  obtain ⟨s1, rfl⟩ : ∃ s1 : Fut W0, w1 = s1.val := ⟨⟨w1, s0.below.trans (hb1.mono s0.below.size)⟩, rfl⟩
  clear hes hfs hos d0 d1 d2 hb1
  by_cases hv : checkV x = 0
  · have q0 : (checkV x == 0) = true := by simp [hv]
    have q1 : (checkV x != 0) = false := by simp [hv]
    have hpl := rfL_places hv
    obtain ⟨hc1, _, hc3, _⟩ := check_zero hv
    have hlen := (src_at hc3).1
    have hfs := hf1.fut s1
    have hlr := rfTo_len x x.src.length
    rw [rfTo_all] at hlr
    have hst := rf_stops 7 (by omega) w.heap.size Af cf x s1.val (Nat.lt_of_lt_of_le hsz s1.below.size) (b1 s1) hfs
    have hP := pairs_any 58 #[.pointer (some ⟨w.heap.size, 0, none⟩)] (enters_of Tryz.func58 (by kernel_rfl) rfl) (rfL x) (fun p hp => by have := hpl p hp; exact ⟨⟨by omega, by omega⟩, by omega, by omega⟩) x.src.length (by omega) hlr s1.val hst
    rw [← rf_yes hv] at hP
    have HP := Lib.hid hP
    have HV := Lib.hid hv
    clear hP hv hst hlr hfs hlen hpl
    go_wp2_with (go_at_call 56; refine HP.out.mono ?_; rintro e w' ⟨A, c, rfl, hp, hb⟩)
    go_ret
    exact ⟨A, c, rfl, hp, (HEND.out s1).trans (hb.mono (HEND.out s1).size)⟩
  · have q0 : (checkV x == 0) = false := by simp [hv]
    have q1 : (checkV x != 0) = true := by simp [hv]
    have HV := Lib.hid hv
    clear hv
    go_wp2
    go_ret
    have hn := rf_no HV.out
    exact ⟨none, 0, by rw [hn]; rfl, ⟨by rw [hn]; simp, fun h => by rw [hn] at h; simp at h⟩, HEND.out s1⟩
end Go.Proofs.YtacnbdnmkmpldaaGreat
