/- The reference's hangs: on what an event may hang. -/
import Derived.Test.YtacnbdnmkmpldaaGreatEvB
namespace Go.Proofs.YtacnbdnmkmpldaaGreat
open Go.RowKit Q
set_option linter.unusedSimpArgs false
set_option linter.unusedVariables false

set_option maxRecDepth 100000 in
set_option maxHeartbeats 4000000 in
theorem rhangs_any (x : Ex) (Ae : Option Addr) (ce : Nat) (Vf Vo : Value) (A : Option Addr) (c : Nat) (l : List Int) (n : Nat) (w : World) (he : Evs w Ae x.evs) (hl : Ints w A l) (hn : n < x.evs.length) :
    Calls Tryz.prog 63 #[.agg #[.slice Ae x.evs.length ce, Vf, Vo], .int .i64 n, .slice A l.length c] w fun e w' =>
      e = .returned (.bool (hangsB x n l)) ∧ Below w.heap.size w w' := by
  have hl0 := hl.1
  have hx0 := he.1
  go_enter Tryz.func63, Tryz.ntmps63
  go_wp2
  have hbx : Below w.heap.size w (w.alloc (.cells #[.slice Ae x.evs.length ce, Vf, Vo] 26)) := (Below.refl _ _).alloc (Nat.le_refl _) _
  have hce0 : (w.alloc (.cells #[.slice Ae x.evs.length ce, Vf, Vo] 26)).cell? ⟨w.heap.size, 0, none⟩ = some (.slice Ae x.evs.length ce) := by simp
  have he0 := he.below hbx
  have hl1 := hl.below hbx
  obtain ⟨W0, hW0⟩ : ∃ W0, w.alloc (.cells #[.slice Ae x.evs.length ce, Vf, Vo] 26) = W0 := ⟨_, rfl⟩
  rw [hW0] at hbx hce0 he0 hl1 ⊢
  clear hW0 he hl
  go_loopw [7] (fun i wr => ∃ k : Nat, k ≤ l.length ∧ i = .int .i64 k ∧ hangsB x n l = hangs1 x n (prevOf l k) (l.drop k) ∧ Below W0.heap.size W0 wr) (fun i _ => l.length - (intOf i).toNat)
  case atStart => exact ⟨0, Nat.zero_le _, rfl, rfl, Below.refl _ _⟩
  case round =>
    obtain ⟨k, hk, rfl, hB, hb⟩ := hrel
    have HB := Lib.hid hB
    clear hB
    by_cases hlt : k < l.length
    · obtain ⟨b, off, rfl, hc⟩ := (hl1.below hb).2 (by omega)
      obtain ⟨be, oe, rfl, hce⟩ := (he0.below hb).2 (by omega)
      have hbox := (Fut.mk wr hb).cell hce0
      have hck0 := hc k hlt
      have hnxt := Lib.hid (hangs1_at x n l k hlt)
      have hkp := fun (s : Fut wr) (h : 0 < k) => s.cell (hc (k - 1) (by omega))
      obtain ⟨d, hd⟩ : ∃ d, d = l[k]?.getD 0 := ⟨_, rfl⟩
      obtain ⟨pv, hpv⟩ : ∃ d, d = l[k-1]?.getD 0 := ⟨_, rfl⟩
      obtain ⟨em, hem⟩ : ∃ em, em = x.evs[d.toNat]?.getD zev := ⟨_, rfl⟩
      obtain ⟨en, hen⟩ : ∃ en, en = x.evs[n]?.getD zev := ⟨_, rfl⟩
      rw [← hd] at hck0
      rw [← hpv] at hkp
      have hH := hce n hn
      rw [← hen] at hH
      have fn0 := fun s : Fut wr => s.cell hH.c0
      have hOk := Lib.hid (hangOk_iff hpv hem hen)
      have HD := Lib.hid hd
      have HEM := Lib.hid hem
      have hcb := fun s : Fut wr => s.cell hbox
      have HCE := Lib.hid hce
      have hdone : ∀ s : Fut wr, Below w.heap.size w s.val := fun s => hbx.trans ((hb.trans (s.below.mono hb.size)).mono hbx.size)
      have hgo : ∀ s : Fut wr, Below W0.heap.size W0 s.val := fun s => hb.trans (s.below.mono hb.size)
      have HDN := Lib.hid hdone
      have HGO := Lib.hid hgo
      clear hd hpv hem hen hc hce hH hdone hgo
      go_wp2
      rcases (show d < 0 ∨ (0 ≤ d ∧ (n : Int) ≤ d) ∨ (0 ≤ d ∧ d < n) by omega) with h1 | ⟨h1, h2⟩ | ⟨h1, h2⟩
      · refine wp_region_fut (by kernel_rfl) (lexOf lexRHangs (by kernel_rfl)) ?_
        repeat (go_big_quiet_step (fail))
        refine wpQuiet_nil ?_
        intro s
        go_wp2
        go_ret
        exact ⟨ret_bool (hangs_no HB.out hnxt.out HD.out (by rw [hOk.out]; simp; omega)), HDN.out s⟩
      · have b1 : decide (d < 0) = false := decide_eq_false (by omega)
        refine wp_region_fut (by kernel_rfl) (lexOf lexRHangs (by kernel_rfl)) ?_
        repeat (go_big_quiet_step (fail))
        refine wpQuiet_nil ?_
        intro s
        go_wp2
        go_ret
        exact ⟨ret_bool (hangs_no HB.out hnxt.out HD.out (by rw [hOk.out]; simp; omega)), HDN.out s⟩
      · obtain ⟨Aa, ca, Ad, cd, Ac, cc, f0, f1, f2, f3, f4, f5, f6, f7, f8, f9, f10, f11, f12, _, _, _⟩ := (HEM.out ▸ HCE.out d.toNat (by omega) : EvAt wr be (oe + d.toNat * 13) em).facts
        have b1 : decide (d < 0) = false := decide_eq_false (by omega)
        have b2 : decide ((n : Int) ≤ d) = false := decide_eq_false (by omega)
        rcases (show k = 0 ∨ (0 < k ∧ d ≤ pv) ∨ (0 < k ∧ pv < d) by omega) with hk0 | ⟨hk0, h3⟩ | ⟨hk0, h3⟩
        · have b3 : decide (0 < k) = false := decide_eq_false (by omega)
          have HK0 := Lib.hid hk0
          clear hk0
          by_cases hh : em.hart = en.hart
          · have b4 : (em.hart != en.hart) = false := by simp [hh]
            have b5 : (em.hart == en.hart) = true := by simp [hh]
            have HH := Lib.hid hh
            clear hh
            refine wp_region_fut (by kernel_rfl) (lexOf lexRHangs (by kernel_rfl)) ?_
            repeat (go_big_quiet_step ((go_at_call 64; exact fut_call _ (rloads_any _ _ _ _ _ _ _ _ _ _ _ _ _ _))))
            refine wpQuiet_nil ?_
            intro s
            go_wp2
            · go_ret
              exact ⟨ret_bool (hangs_no HB.out hnxt.out HD.out (by rw [hOk.out]; simp_all)), HDN.out s⟩
            · go_roundw
              case rel => exact ⟨k + 1, by omega, by go_num, hangs_yes HB.out hnxt.out HD.out (by rw [hOk.out]; simp_all), HGO.out s⟩
              case measure => simp [intOf]; omega
          · have b4 : (em.hart != en.hart) = true := by simp [hh]
            have b5 : (em.hart == en.hart) = false := by simp [hh]
            refine wp_region_fut (by kernel_rfl) (lexOf lexRHangs (by kernel_rfl)) ?_
            repeat (go_big_quiet_step (fail))
            refine wpQuiet_nil ?_
            intro s
            go_wp2
            go_ret
            exact ⟨ret_bool (hangs_no HB.out hnxt.out HD.out (by rw [hOk.out]; simp [hh])), HDN.out s⟩
        · have hkp' := fun s => hkp s hk0
          have b3 : decide (0 < k) = true := decide_eq_true hk0
          clear hkp
          refine wp_region_fut (by kernel_rfl) (lexOf lexRHangs (by kernel_rfl)) ?_
          repeat (go_big_quiet_step (fail))
          refine wpQuiet_nil ?_
          intro s
          go_wp2
          go_ret
          exact ⟨ret_bool (hangs_no HB.out hnxt.out HD.out (by rw [hOk.out]; simp; omega)), HDN.out s⟩
        · have hkp' := fun s => hkp s hk0
          have b3 : decide (0 < k) = true := decide_eq_true hk0
          have b6 : decide (d ≤ pv) = false := decide_eq_false (by omega)
          clear hkp
          by_cases hh : em.hart = en.hart
          · have b4 : (em.hart != en.hart) = false := by simp [hh]
            have b5 : (em.hart == en.hart) = true := by simp [hh]
            have HH := Lib.hid hh
            clear hh
            refine wp_region_fut (by kernel_rfl) (lexOf lexRHangs (by kernel_rfl)) ?_
            repeat (go_big_quiet_step ((go_at_call 64; exact fut_call _ (rloads_any _ _ _ _ _ _ _ _ _ _ _ _ _ _))))
            refine wpQuiet_nil ?_
            intro s
            go_wp2
            · go_ret
              exact ⟨ret_bool (hangs_no HB.out hnxt.out HD.out (by rw [hOk.out]; simp_all)), HDN.out s⟩
            · go_roundw
              case rel => exact ⟨k + 1, by omega, by go_num, hangs_yes HB.out hnxt.out HD.out (by rw [hOk.out]; simp_all), HGO.out s⟩
              case measure => simp [intOf]; omega
          · have b4 : (em.hart != en.hart) = true := by simp [hh]
            have b5 : (em.hart == en.hart) = false := by simp [hh]
            refine wp_region_fut (by kernel_rfl) (lexOf lexRHangs (by kernel_rfl)) ?_
            repeat (go_big_quiet_step (fail))
            refine wpQuiet_nil ?_
            intro s
            go_wp2
            go_ret
            exact ⟨ret_bool (hangs_no HB.out hnxt.out HD.out (by rw [hOk.out]; simp [hh])), HDN.out s⟩
    · go_wp2
      go_ret
      exact ⟨by rw [HB.out, List.drop_of_length_le (by omega)]; simp [hangs1], hbx.trans (hb.mono hbx.size)⟩
end Go.Proofs.YtacnbdnmkmpldaaGreat
