/- slices.EqualFunc, over rows of numbers and over events; events.Same. -/
import Derived.Test.YtacnbdnmkmpldaaSmE
namespace Go.Proofs.Ytacnbdnmkmpldaa
open Go Go.Proofs Go.RowKit Q
set_option linter.unusedSimpArgs false
set_option linter.unusedVariables false

set_option maxRecDepth 100000 in
set_option maxHeartbeats 4000000 in
theorem equalR_any (l m : List (List Int)) (A B : Option Addr) (ca cb : Nat) (w : World) (hl : Q.Rows w A l) (hm : Q.Rows w B m) :
    Calls Try.prog 41 #[.slice A l.length ca, .slice B m.length cb, .func (.func 40) #[] #[]] w fun e w' => e = .returned (.bool (decide (l = m))) ∧ Below w.heap.size w w' := by
  have hl0 := hl.1
  have hm0 := hm.1
  go_enter Try.func41, Try.ntmps41
  by_cases hlen : l.length = m.length
  case neg =>
    have q0 : ((l.length : Int) == m.length) = false := by rw [beq_eq_false_iff_ne]; omega
    have q1 : ((l.length : Int) != m.length) = true := by rw [bne, q0]; rfl
    go_wp2
    go_ret
    exact ⟨ret_bool (decide_eq_false (fun e => hlen (by rw [e]))), Below.refl _ _⟩
  have q0 : ((l.length : Int) == m.length) = true := by rw [beq_iff_eq]; omega
  have q1 : ((l.length : Int) != m.length) = false := by rw [bne, q0]; rfl
  have HLEN := Lib.hid hlen
  clear hlen
  go_wp2
  go_loopw [17] (fun i wr => ∃ k : Nat, k ≤ l.length ∧ i = .int .i64 k ∧ (∃ s : Fut w, wr = s.val) ∧ ∀ j, j < k → l[j]?.getD [] = m[j]?.getD []) (fun i _ => l.length - (intOf i).toNat)
  case atStart => exact ⟨0, Nat.zero_le _, rfl, ⟨⟨w, Below.refl _ _⟩, rfl⟩, fun j hj => by omega⟩
  case round =>
    obtain ⟨k, hk, rfl, ⟨s, rfl⟩, hall⟩ := hrel
    have HALL := Lib.hid hall
    clear hall
    by_cases hkl : k < l.length
    · have hkm : k < m.length := by rw [← HLEN.out]; exact hkl
      obtain ⟨b1, o1, rfl, hc1⟩ := hl.2 (by omega)
      obtain ⟨b2, o2, rfl, hc2⟩ := hm.2 (by omega)
      obtain ⟨B1, c1, e1, i1⟩ := hc1 k hkl
      obtain ⟨B2, c2, e2, i2⟩ := hc2 k hkm
      obtain ⟨p, hp⟩ : ∃ p, l[k]?.getD [] = p := ⟨_, rfl⟩
      obtain ⟨q, hq⟩ : ∃ q, m[k]?.getD [] = q := ⟨_, rfl⟩
      rw [hp] at e1 i1
      rw [hq] at e2 i2
      have f1 := s.cell e1
      have f2 := s.cell e2
      have HC := Lib.hid (equalI_any p q B1 B2 c1 c2 s.val (i1.fut s) (i2.fut s))
      have HP := Lib.hid hp
      have HQ := Lib.hid hq
      clear hp hq e1 e2 hc1 hc2 hl hm i1 i2
      by_cases hpq : p = q
      · have HPQ := Lib.hid hpq
        clear hpq
        go_wp2_with (go_at_call 40; refine HC.out.mono ?_; rintro e w' ⟨rfl, hb⟩; rw [decide_eq_true HPQ.out])
        go_roundw
        case rel => exact ⟨k + 1, by omega, by go_num, ⟨⟨w', s.below.trans (hb.mono s.below.size)⟩, rfl⟩, fun j hj => by
          by_cases hjk : j = k
          · subst hjk; rw [HP.out, HQ.out, HPQ.out]
          · exact HALL.out j (by omega)⟩
        case measure => simp [intOf]; omega
      · have HPQ := Lib.hid hpq
        have HN := Lib.hid (ne_at [] HP.out HQ.out hpq)
        clear hpq
        go_wp2_with (go_at_call 40; refine HC.out.mono ?_; rintro e w' ⟨rfl, hb⟩; rw [decide_eq_false HPQ.out])
        go_ret
        exact ⟨ret_bool (decide_eq_false HN.out), s.below.trans (hb.mono s.below.size)⟩
    · obtain rfl : k = l.length := by omega
      go_wp2
      go_ret
      exact ⟨ret_bool (decide_eq_true (eq_at [] HLEN.out HALL.out)), s.below⟩

set_option maxRecDepth 100000 in
set_option maxHeartbeats 4000000 in
theorem equalE_any (l m : List Ev) (A B : Option Addr) (ca cb : Nat) (w : World) (hl : Evs w A l) (hm : Evs w B m) :
    Calls Try.prog 38 #[.slice A l.length ca, .slice B m.length cb, .func (.func 39) #[] #[]] w fun e w' => e = .returned (.bool (decide (l = m))) ∧ Below w.heap.size w w' := by
  have hl0 := hl.1
  have hm0 := hm.1
  go_enter Try.func38, Try.ntmps38
  by_cases hlen : l.length = m.length
  case neg =>
    have q0 : ((l.length : Int) == m.length) = false := by rw [beq_eq_false_iff_ne]; omega
    have q1 : ((l.length : Int) != m.length) = true := by rw [bne, q0]; rfl
    go_wp2
    go_ret
    exact ⟨ret_bool (decide_eq_false (fun e => hlen (by rw [e]))), Below.refl _ _⟩
  have q0 : ((l.length : Int) == m.length) = true := by rw [beq_iff_eq]; omega
  have q1 : ((l.length : Int) != m.length) = false := by rw [bne, q0]; rfl
  have HLEN := Lib.hid hlen
  clear hlen
  go_wp2
  go_loopw [17] (fun i wr => ∃ k : Nat, k ≤ l.length ∧ i = .int .i64 k ∧ (∃ s : Fut w, wr = s.val) ∧ ∀ j, j < k → l[j]?.getD zev = m[j]?.getD zev) (fun i _ => l.length - (intOf i).toNat)
  case atStart => exact ⟨0, Nat.zero_le _, rfl, ⟨⟨w, Below.refl _ _⟩, rfl⟩, fun j hj => by omega⟩
  case round =>
    obtain ⟨k, hk, rfl, ⟨s, rfl⟩, hall⟩ := hrel
    have HALL := Lib.hid hall
    clear hall
    by_cases hkl : k < l.length
    · have hkm : k < m.length := by rw [← HLEN.out]; exact hkl
      obtain ⟨b1, o1, rfl, _⟩ := hl.2 (by omega)
      obtain ⟨b2, o2, rfl, _⟩ := hm.2 (by omega)
      obtain ⟨e, hen⟩ : ∃ e, e = l[k]?.getD zev := ⟨_, rfl⟩
      obtain ⟨g, hgn⟩ : ∃ g, g = m[k]?.getD zev := ⟨_, rfl⟩
      have hE := hl.at k hkl
      have hG := hm.at k hkm
      rw [← hen] at hE
      rw [← hgn] at hG
      obtain ⟨A1, n1, D1, d1, C1, q1', f0, f1, f2, f3, f4, f5, f6, f7, f8, f9, f10, f11, f12, ia, id_, ic⟩ := hE.facts
      obtain ⟨A2, n2, D2, d2, C2, q2', g0, g1, g2, g3, g4, g5, g6, g7, g8, g9, g10, g11, g12, ja, jd, jc⟩ := hG.facts
      have HEN := Lib.hid hen
      have HGN := Lib.hid hgn
      clear hen hgn hE hG hl hm
      go_upto_region 6 with (fail)
      obtain ⟨W1, s1, hW1, hbx1, hsz1, c0, c1, c2, c3, c4, c5, c6, c7, c8, c9, c10, c11, c12⟩ := box13 s.val 44 (.int .i64 e.hart) (.int .i64 e.kind) (.int .u32 e.addr) (.int .u32 e.value) (.int .u32 e.readv) (.bool e.aq) (.bool e.rl) (.int .i64 e.pred) (.int .i64 e.succ) (.bool e.resv) (.slice A1 e.addrs.length n1) (.slice D1 e.datas.length d1) (.slice C1 e.ctrls.length q1')
      rw [hW1]
      clear hW1 f0 f1 f2 f3 f4 f5 f6 f7 f8 f9 f10 f11 f12
      have g0' : ∀ t : Fut W1, t.val.cell? ⟨b2, o2 + k * 13, none⟩ = some (.int .i64 g.hart) := fun t => g0 (s.up hbx1 t)
      have g1' : ∀ t : Fut W1, t.val.cell? ⟨b2, o2 + k * 13 + 1, none⟩ = some (.int .i64 g.kind) := fun t => g1 (s.up hbx1 t)
      have g2' : ∀ t : Fut W1, t.val.cell? ⟨b2, o2 + k * 13 + 2, none⟩ = some (.int .u32 g.addr) := fun t => g2 (s.up hbx1 t)
      have g3' : ∀ t : Fut W1, t.val.cell? ⟨b2, o2 + k * 13 + 3, none⟩ = some (.int .u32 g.value) := fun t => g3 (s.up hbx1 t)
      have g4' : ∀ t : Fut W1, t.val.cell? ⟨b2, o2 + k * 13 + 4, none⟩ = some (.int .u32 g.readv) := fun t => g4 (s.up hbx1 t)
      have g5' : ∀ t : Fut W1, t.val.cell? ⟨b2, o2 + k * 13 + 5, none⟩ = some (.bool g.aq) := fun t => g5 (s.up hbx1 t)
      have g6' : ∀ t : Fut W1, t.val.cell? ⟨b2, o2 + k * 13 + 6, none⟩ = some (.bool g.rl) := fun t => g6 (s.up hbx1 t)
      have g7' : ∀ t : Fut W1, t.val.cell? ⟨b2, o2 + k * 13 + 7, none⟩ = some (.int .i64 g.pred) := fun t => g7 (s.up hbx1 t)
      have g8' : ∀ t : Fut W1, t.val.cell? ⟨b2, o2 + k * 13 + 8, none⟩ = some (.int .i64 g.succ) := fun t => g8 (s.up hbx1 t)
      have g9' : ∀ t : Fut W1, t.val.cell? ⟨b2, o2 + k * 13 + 9, none⟩ = some (.bool g.resv) := fun t => g9 (s.up hbx1 t)
      have g10' : ∀ t : Fut W1, t.val.cell? ⟨b2, o2 + k * 13 + 10, none⟩ = some (.slice A2 g.addrs.length n2) := fun t => g10 (s.up hbx1 t)
      have g11' : ∀ t : Fut W1, t.val.cell? ⟨b2, o2 + k * 13 + 11, none⟩ = some (.slice D2 g.datas.length d2) := fun t => g11 (s.up hbx1 t)
      have g12' : ∀ t : Fut W1, t.val.cell? ⟨b2, o2 + k * 13 + 12, none⟩ = some (.slice C2 g.ctrls.length q2') := fun t => g12 (s.up hbx1 t)
      clear g0 g1 g2 g3 g4 g5 g6 g7 g8 g9 g10 g11 g12
      go_upto_region 7 with (fail)
      obtain ⟨W2, s2, hW2, hbx2, hsz2, h0, h1, h2, h3, h4, h5, h6, h7, h8, h9, h10, h11, h12⟩ := box13 s1.val 44 (.int .i64 g.hart) (.int .i64 g.kind) (.int .u32 g.addr) (.int .u32 g.value) (.int .u32 g.readv) (.bool g.aq) (.bool g.rl) (.int .i64 g.pred) (.int .i64 g.succ) (.bool g.resv) (.slice A2 g.addrs.length n2) (.slice D2 g.datas.length d2) (.slice C2 g.ctrls.length q2')
      rw [hW2]
      clear hW2 g0' g1' g2' g3' g4' g5' g6' g7' g8' g9' g10' g11' g12'
      have k0 := c0 (s1.up hbx2 s2)
      have l0 := h0 s2
      have k1 := c1 (s1.up hbx2 s2)
      have l1 := h1 s2
      have k2 := c2 (s1.up hbx2 s2)
      have l2 := h2 s2
      have k3 := c3 (s1.up hbx2 s2)
      have l3 := h3 s2
      have k4 := c4 (s1.up hbx2 s2)
      have l4 := h4 s2
      have k5 := c5 (s1.up hbx2 s2)
      have l5 := h5 s2
      have k6 := c6 (s1.up hbx2 s2)
      have l6 := h6 s2
      have k7 := c7 (s1.up hbx2 s2)
      have l7 := h7 s2
      have k8 := c8 (s1.up hbx2 s2)
      have l8 := h8 s2
      have k9 := c9 (s1.up hbx2 s2)
      have l9 := h9 s2
      have k10 := c10 (s1.up hbx2 s2)
      have l10 := h10 s2
      have k11 := c11 (s1.up hbx2 s2)
      have l11 := h11 s2
      have k12 := c12 (s1.up hbx2 s2)
      have l12 := h12 s2
      simp only [Fut.up_val] at k0 k1 k2 k3 k4 k5 k6 k7 k8 k9 k10 k11 k12
      clear c0 c1 c2 c3 c4 c5 c6 c7 c8 c9 c10 c11 c12 h0 h1 h2 h3 h4 h5 h6 h7 h8 h9 h10 h11 h12
      have HT := Lib.hid (show Below w.heap.size w s2.val from (s.up hbx1 (s1.up hbx2 s2)).below)
      have HC := Lib.hid (same_any e g A1 D1 C1 A2 D2 C2 n1 d1 q1' n2 d2 q2' s2.val (ia.below HT.out) (id_.below HT.out) (ic.below HT.out) (ja.below HT.out) (jd.below HT.out) (jc.below HT.out))
      clear ia id_ ic ja jd jc
      by_cases hpq : e = g
      · have HPQ := Lib.hid hpq
        clear hpq
        go_wp2_with (go_at_call 39; refine HC.out.mono ?_; rintro e' w' ⟨rfl, hb⟩; rw [decide_eq_true HPQ.out])
        go_roundw
        case rel => exact ⟨k + 1, by omega, by go_num, ⟨⟨w', HT.out.trans (hb.mono HT.out.size)⟩, rfl⟩, fun j hj => by
          by_cases hjk : j = k
          · subst hjk; rw [← HEN.out, ← HGN.out, HPQ.out]
          · exact HALL.out j (by omega)⟩
        case measure => simp [intOf]; omega
      · have HPQ := Lib.hid hpq
        have HN := Lib.hid (ne_at zev HEN.out.symm HGN.out.symm hpq)
        clear hpq
        go_wp2_with (go_at_call 39; refine HC.out.mono ?_; rintro e' w' ⟨rfl, hb⟩; rw [decide_eq_false HPQ.out])
        go_ret
        exact ⟨ret_bool (decide_eq_false HN.out), HT.out.trans (hb.mono HT.out.size)⟩
    · obtain rfl : k = l.length := by omega
      go_wp2
      go_ret
      exact ⟨ret_bool (decide_eq_true (eq_at zev HLEN.out HALL.out)), s.below⟩
end Go.Proofs.Ytacnbdnmkmpldaa
