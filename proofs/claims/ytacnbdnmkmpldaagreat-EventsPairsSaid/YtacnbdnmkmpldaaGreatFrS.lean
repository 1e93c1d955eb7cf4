/- events.Fr. -/
import Derived.Test.YtacnbdnmkmpldaaGreatEvQ
import Derived.Test.YtacnbdnmkmpldaaGreatFrI
import Derived.Test.YtacnbdnmkmpldaaGreatCoS
namespace Go.Proofs.YtacnbdnmkmpldaaGreat
open Go Go.Proofs Go.RowKit Go.Sort Q
set_option linter.unusedSimpArgs false
set_option linter.unusedVariables false

theorem coV_places {x : Ex} : ∀ p ∈ coV x, (0 ≤ p.1 ∧ p.1 < 64) ∧ 0 ≤ p.2 ∧ p.2 < 64 := by
  intro p hp
  by_cases hv : checkV x = 0
  · rw [co_yes hv] at hp
    have := coL_places hv p (mem_sortP.1 hp)
    have := (check_zero hv).1
    omega
  · rw [co_no hv] at hp; cases hp
theorem rfV_places {x : Ex} : ∀ p ∈ rfV x, (0 ≤ p.1 ∧ p.1 < 64) ∧ 0 ≤ p.2 ∧ p.2 < 64 := by
  intro p hp
  by_cases hv : checkV x = 0
  · rw [rf_yes hv] at hp
    have := rfL_places hv p (mem_sortP.1 hp)
    have := (check_zero hv).1
    omega
  · rw [rf_no hv] at hp; cases hp
theorem coV_len (x : Ex) : (coV x).length ≤ 262144 := by
  by_cases hv : checkV x = 0
  · rw [co_yes hv, sortP_len]; exact coL_len hv
  · rw [co_no hv]; simp
theorem rfV_len (x : Ex) : (rfV x).length ≤ 64 := by
  by_cases hv : checkV x = 0
  · rw [rf_yes hv, sortP_len]
    have h1 := rfTo_len x x.src.length
    rw [rfTo_all] at h1
    obtain ⟨h2, _, h3, _⟩ := check_zero hv
    have := (src_at h3).1
    omega
  · rw [rf_no hv]; simp
theorem frL_places {x : Ex} : ∀ p ∈ frL (coV x) (rfV x), (0 ≤ p.1 ∧ p.1 < 64) ∧ 0 ≤ p.2 ∧ p.2 < 64 := by
  intro p hp
  obtain ⟨r, hr, hp⟩ := List.mem_flatMap.1 hp
  obtain ⟨c, hc, rfl⟩ := List.mem_map.1 hp
  exact ⟨(rfV_places r hr).2, (coV_places c (List.mem_filter.1 hc).1).2⟩
theorem frL_len (x : Ex) : (frL (coV x) (rfV x)).length ≤ 16777216 := by
  have h1 := flat_len (rowF (coV x)) 262144 (rfV x) (fun r _ => by
    have h := rowF_le (coV x) r (coV x).length
    have h2 := List.length_filter_le (frTest r) (coV x)
    have h3 := coV_len x
    simp only [rowF, List.length_map] at *
    omega)
  have := rfV_len x
  rw [frL_rows]; omega

set_option maxRecDepth 100000 in
set_option maxHeartbeats 2000000 in
theorem fr_any (x : Ex) (hok : ExOk x) (Ae Af Ao : Option Addr) (ce cf co : Nat) (w : World) (he : Evs w Ae x.evs) (hf : Ints w Af x.src) (ho : Q.Rows w Ao x.order) (hcap : CapsOk w Ao x.order.length) :
    Calls Tryz.prog 25 #[.agg #[.slice Ae x.evs.length ce, .slice Af x.src.length cf, .slice Ao x.order.length co]] w fun r w' =>
      ∃ A c, r = .returned (.slice A (frV x).length c) ∧ Prs w' A (frV x) ∧ Below w.heap.size w w' := by
  go_enter Tryz.func25, Tryz.ntmps25
  go_upto_region 1 with (fail)
  obtain ⟨W0, s0, hW0, hbx, hsz, b0, b1, b2⟩ := box3 w 26 (.slice Ae x.evs.length ce) (.slice Af x.src.length cf) (.slice Ao x.order.length co)
  rw [hW0]
  clear hW0
  have he0 := he.below hbx
  have hf1 := hf.below hbx
  have ho1 := ho.below hbx
  have hcp1 : CapsOk W0 Ao x.order.length := hcap.fut ho ⟨W0, hbx⟩
  have hend : ∀ s : Fut W0, Below w.heap.size w s.val := fun s => hbx.trans (s.below.mono (Nat.le_of_lt hsz))
  have HEND := Lib.hid hend
  have HCO := Lib.hid (co_any x hok Ae Af Ao ce cf co s0.val (he0.fut s0) (hf1.fut s0) (ho1.fut s0) (hcp1.fut ho1 s0))
  clear hend he hf ho hcap
  have d0 := b0 s0
  have d1 := b1 s0
  have d2 := b2 s0
  go_upto_region 2 with (go_at_call 24; refine HCO.out.mono ?_; rintro e w1 ⟨A1, c1, rfl, hp1, hb1⟩)
  have hbal : Below w1.heap.size w1 (w1.alloc (.cells #[.slice A1 (coV x).length c1] 29)) := (Below.refl _ _).alloc (Nat.le_refl _) _
  have hcell : (w1.alloc (.cells #[.slice A1 (coV x).length c1] 29)).cell? ⟨w1.heap.size, 0, none⟩ = some (.slice A1 (coV x).length c1) := (Boxed.new w1 29 (.slice A1 (coV x).length c1)).cell
  have hlt : w1.heap.size < (w1.alloc (.cells #[.slice A1 (coV x).length c1] 29)).heap.size := by simp
  have hp2 := hp1.below hbal
  have hs1 : Below W0.heap.size W0 (w1.alloc (.cells #[.slice A1 (coV x).length c1] 29)) := s0.below.trans ((hb1.trans (hbal.mono hb1.size)).mono s0.below.size)
  obtain ⟨W2, hW2⟩ : ∃ W2, w1.alloc (.cells #[.slice A1 (coV x).length c1] 29) = W2 := ⟨_, rfl⟩
  rw [hW2] at hcell hlt hp2 hs1 ⊢
  obtain ⟨s2, rfl⟩ : ∃ s2 : Fut W0, W2 = s2.val := ⟨⟨W2, hs1⟩, rfl⟩
  have hst := fr_stops 7 (by omega) w.heap.size w1.heap.size x hok Ae Af Ao A1 ce cf co c1 (coV x) s2.val (Nat.lt_of_lt_of_le hsz s2.below.size) hlt (b0 s2) (b1 s2) (b2 s2) hcell (he0.fut s2) (hf1.fut s2) (ho1.fut s2) hp2
  have hP := pairs_anyQ 60 #[.pointer (some ⟨w.heap.size, 0, none⟩), .pointer (some ⟨w1.heap.size, 0, none⟩)] (enters_of Tryz.func60 (by kernel_rfl) rfl) (frL (coV x) (rfV x)) (fun p hp => by have := frL_places p hp; exact ⟨⟨by omega, by omega⟩, by omega, by omega⟩) (frL (coV x) (rfV x)).length (by have := frL_len x; omega) (Nat.le_refl _) s2.val hst
  have HP := Lib.hid hP
  clear hP hst hW2 hcell hlt hp2 hs1 hbal hp1 hb1 d0 d1 d2 HCO
  go_wp2_with (go_at_call 56; refine HP.out.mono ?_; rintro e w' ⟨A, c, rfl, hp, hb⟩)
  go_ret
  exact ⟨A, c, rfl, hp, (HEND.out s2).trans (hb.mono (HEND.out s2).size)⟩
end Go.Proofs.YtacnbdnmkmpldaaGreat
