/- events.Po. -/
import Derived.Test.YtacnbdnmkmpldaaGreatEvP
import Derived.Test.YtacnbdnmkmpldaaGreatEvH
import Derived.Test.YtacnbdnmkmpldaaGreatPoI
namespace Go.Proofs.YtacnbdnmkmpldaaGreat
open Go Go.Proofs Go.RowKit Go.Sort Q
set_option linter.unusedSimpArgs false
set_option linter.unusedVariables false

theorem po_yes {x : Ex} (h : checkV x = 0) : poV x = sortP (poL x) := by unfold poV; rw [if_pos h]
theorem poL_places (x : Ex) : ∀ p ∈ poL x, (0 ≤ p.1 ∧ p.1 < x.evs.length) ∧ 0 ≤ p.2 ∧ p.2 < x.evs.length := by
  intro p hp
  obtain ⟨a, b, ha, hb, _, rfl⟩ := mem_pairsOf.1 (show p ∈ pairsOf x.evs.length (isPo x) from hp)
  dsimp only; omega
theorem pairsOf_len (n : Nat) (is : Nat → Nat → Bool) : (pairsOf n is).length ≤ n * n := by
  have := flat_len (fun a : Nat => ((List.range n).filter fun b => is a b).map fun b : Nat => ((a : Int), (b : Int))) n (List.range n) (fun a _ => by
    have := List.length_filter_le (fun b => is a b) (List.range n)
    simpa using this)
  simpa [pairsOf] using this

set_option maxRecDepth 100000 in
set_option maxHeartbeats 2000000 in
theorem po_any (x : Ex) (hok : ExOk x) (Ae Af Ao : Option Addr) (ce cf co : Nat) (w : World) (he : Evs w Ae x.evs) (hf : Ints w Af x.src) (ho : Q.Rows w Ao x.order) :
    Calls Tryz.prog 22 #[.agg #[.slice Ae x.evs.length ce, .slice Af x.src.length cf, .slice Ao x.order.length co]] w fun r w' =>
      ∃ A c, r = .returned (.slice A (poV x).length c) ∧ Prs w' A (poV x) ∧ Below w.heap.size w w' := by
  go_enter Tryz.func22, Tryz.ntmps22
  go_upto_region 1 with (fail)
  obtain ⟨W0, s0, hW0, hbx, hsz, b0, b1, b2⟩ := box3 w 26 (.slice Ae x.evs.length ce) (.slice Af x.src.length cf) (.slice Ao x.order.length co)
  rw [hW0]
  clear hW0
  have he0 := he.below hbx
  have hf1 := hf.below hbx
  have ho1 := ho.below hbx
  have hend : ∀ s : Fut W0, Below w.heap.size w s.val := fun s => hbx.trans (s.below.mono (Nat.le_of_lt hsz))
  have HEND := Lib.hid hend
  clear hend he hf ho
  have hes := he0.fut s0
  have hfs := hf1.fut s0
  have hos := ho1.fut s0
  have d0 := b0 s0
  have d1 := b1 s0
  have d2 := b2 s0
  go_wp2_with fail
  refine (check_any x hok Ae Af Ao ce cf co _ hes hfs hos).mono ?_
  rintro e w1 ⟨rfl, hb1⟩
  obtain ⟨s1, rfl⟩ : ∃ s1 : Fut W0, w1 = s1.val := ⟨⟨w1, s0.below.trans (hb1.mono s0.below.size)⟩, rfl⟩
  clear hes hfs hos d0 d1 d2 hb1
  by_cases hv : checkV x = 0
  · have q0 : (checkV x == 0) = true := by simp [hv]
    have q1 : (checkV x != 0) = false := by simp [hv]
    have hpl := poL_places x
    have hln := pairsOf_len x.evs.length (isPo x)
    have hln2 : (poL x).length ≤ 4096 := by
      have h1 := (check_zero hv).1
      have : x.evs.length * x.evs.length ≤ 64 * 64 := Nat.mul_le_mul (by omega) (by omega)
      exact Nat.le_trans hln this
    obtain ⟨hc1, _, _, _⟩ := check_zero hv
    have hrs := he0.fut s1
    have hst := po_stops 7 (by omega) w.heap.size Ae ce x s1.val (Nat.lt_of_lt_of_le hsz s1.below.size) (b0 s1) hrs
    have hP := pairs_any 57 #[.pointer (some ⟨w.heap.size, 0, none⟩)] (enters_of Tryz.func57 (by kernel_rfl) rfl) (poL x) (fun p hp => by have := hpl p hp; exact ⟨⟨by omega, by omega⟩, by omega, by omega⟩) (poL x).length (by omega) (Nat.le_refl _) s1.val hst
    rw [← po_yes hv] at hP
    have HP := Lib.hid hP
    have HV := Lib.hid hv
    clear hP hv hst hln hln2 hrs hpl
    go_wp2_with (go_at_call 56; refine HP.out.mono ?_; rintro e w' ⟨A, c, rfl, hp, hb⟩)
    go_ret
    exact ⟨A, c, rfl, hp, (HEND.out s1).trans (hb.mono (HEND.out s1).size)⟩
  · have q0 : (checkV x == 0) = false := by simp [hv]
    have q1 : (checkV x != 0) = true := by simp [hv]
    have HV := Lib.hid hv
    clear hv
    go_wp2
    go_ret
    have hn := po_none HV.out
    exact ⟨none, 0, by rw [hn]; rfl, ⟨by rw [hn]; simp, fun h => by rw [hn] at h; simp at h⟩, HEND.out s1⟩
end Go.Proofs.YtacnbdnmkmpldaaGreat
