/- Equal rows of numbers: slices.Equal and the reference's SameInts. -/
import Derived.Test.YtacnbdnmkmpldaaEvF
namespace Go.Proofs.Ytacnbdnmkmpldaa
open Go Go.Proofs Go.RowKit Q
set_option linter.unusedSimpArgs false
set_option linter.unusedVariables false

theorem eq_at {α : Type} {l m : List α} (d : α) (hl : l.length = m.length) (h : ∀ j, j < l.length → l[j]?.getD d = m[j]?.getD d) : l = m := by
  apply List.ext_getElem? 
  intro j
  by_cases hj : j < l.length
  · have := h j hj
    rw [List.getElem?_eq_getElem hj, List.getElem?_eq_getElem (hl ▸ hj)] at this ⊢
    simpa using this
  · rw [List.getElem?_eq_none (by omega), List.getElem?_eq_none (by omega)]
theorem ne_at {α : Type} {l m : List α} (d : α) {k : Nat} {p q : α} (hp : l[k]?.getD d = p) (hq : m[k]?.getD d = q) (h : p ≠ q) : ¬ l = m := by
  rintro rfl; exact h (hp.symm.trans hq)

theorem lexEqI : Region.lexB .any (opsOf Try.f40 6) = true := by kernel_rfl
set_option maxRecDepth 100000 in
set_option maxHeartbeats 4000000 in
theorem equalI_any (l m : List Int) (A B : Option Addr) (ca cb : Nat) (w : World) (hl : Ints w A l) (hm : Ints w B m) :
    Calls Try.prog 40 #[.slice A l.length ca, .slice B m.length cb] w fun e w' => e = .returned (.bool (decide (l = m))) ∧ Below w.heap.size w w' := by
  have hl0 := hl.1
  have hm0 := hm.1
  go_enter Try.func40, Try.ntmps40
  by_cases hlen : l.length = m.length
  case neg =>
    have q0 : ((l.length : Int) == m.length) = false := by rw [beq_eq_false_iff_ne]; omega
    have q1 : ((l.length : Int) != m.length) = true := by rw [bne, q0]; rfl
    go_wp2
    go_ret
    exact ⟨ret_bool (decide_eq_false (fun e => hlen (by rw [e]))), Below.refl _ _⟩
  have q0 : ((l.length : Int) == m.length) = true := by rw [beq_iff_eq]; omega
  have q1 : ((l.length : Int) != m.length) = false := by rw [bne, q0]; rfl
  have HLEN := Lib.hid hlen
  clear hlen
  go_wp2
  go_loopw [13] (fun i wr => ∃ k : Nat, k ≤ l.length ∧ i = .int .i64 k ∧ (∃ s : Fut w, wr = s.val) ∧ ∀ j, j < k → l[j]?.getD 0 = m[j]?.getD 0) (fun i _ => l.length - (intOf i).toNat)
  case atStart => exact ⟨0, Nat.zero_le _, rfl, ⟨⟨w, Below.refl _ _⟩, rfl⟩, fun j hj => by omega⟩
  case round =>
    obtain ⟨k, hk, rfl, ⟨s, rfl⟩, hall⟩ := hrel
    have HALL := Lib.hid hall
    clear hall
    by_cases hkl : k < l.length
    · have hkm : k < m.length := by rw [← HLEN.out]; exact hkl
      obtain ⟨b1, o1, rfl, hc1⟩ := hl.2 (by omega)
      obtain ⟨b2, o2, rfl, hc2⟩ := hm.2 (by omega)
      have e1 := hc1 k hkl
      have e2 := hc2 k hkm
      obtain ⟨p, hp⟩ : ∃ p, l[k]?.getD 0 = p := ⟨_, rfl⟩
      obtain ⟨q, hq⟩ : ∃ q, m[k]?.getD 0 = q := ⟨_, rfl⟩
      rw [hp] at e1
      rw [hq] at e2
      have f1 : ∀ t : Fut w, t.val.cell? ⟨b1, o1 + k, none⟩ = some (.int .i64 p) := fun t => t.cell e1
      have f2 : ∀ t : Fut w, t.val.cell? ⟨b2, o2 + k, none⟩ = some (.int .i64 q) := fun t => t.cell e2
      have HP := Lib.hid hp
      have HQ := Lib.hid hq
      clear hp hq e1 e2 hc1 hc2 hl hm
      go_upto_region 6 with (fail)
      refine wp_region_futs s (by kernel_rfl) (lexOf lexEqI (by kernel_rfl)) ?_
      repeat (go_big_quiet_step (fail))
      refine wpQuiet_nil ?_
      intro s2
      by_cases hpq : p = q
      · have q2 : (p == q) = true := beq_iff_eq.2 hpq
        have q3 : (p != q) = false := by rw [bne, q2]; rfl
        go_wp2
        go_roundw
        case rel => exact ⟨k + 1, by omega, by go_num, ⟨s2, rfl⟩, fun j hj => by
          by_cases hjk : j = k
          · subst hjk; rw [HP.out, HQ.out, hpq]
          · exact HALL.out j (by omega)⟩
        case measure => simp [intOf]; omega
      · have q2 : (p == q) = false := beq_eq_false_iff_ne.2 hpq
        have q3 : (p != q) = true := by rw [bne, q2]; rfl
        have HN := Lib.hid (ne_at 0 HP.out HQ.out hpq)
        clear hpq
        go_wp2
        go_ret
        exact ⟨ret_bool (decide_eq_false HN.out), s2.below⟩
    · obtain rfl : k = l.length := by omega
      go_wp2
      go_ret
      exact ⟨ret_bool (decide_eq_true (eq_at 0 HLEN.out HALL.out)), s.below⟩

theorem lexSameI : Region.lexB .any (opsOf Try.f42 6) = true := by kernel_rfl
set_option maxRecDepth 100000 in
set_option maxHeartbeats 4000000 in
theorem sameInts_any (l m : List Int) (A B : Option Addr) (ca cb : Nat) (w : World) (hl : Ints w A l) (hm : Ints w B m) :
    Calls Try.prog 42 #[.slice A l.length ca, .slice B m.length cb] w fun e w' => e = .returned (.bool (decide (l = m))) ∧ Below w.heap.size w w' := by
  have hl0 := hl.1
  have hm0 := hm.1
  go_enter Try.func42, Try.ntmps42
  by_cases hlen : l.length = m.length
  case neg =>
    have q0 : ((l.length : Int) == m.length) = false := by rw [beq_eq_false_iff_ne]; omega
    have q1 : ((l.length : Int) != m.length) = true := by rw [bne, q0]; rfl
    go_wp2
    go_ret
    exact ⟨ret_bool (decide_eq_false (fun e => hlen (by rw [e]))), Below.refl _ _⟩
  have q0 : ((l.length : Int) == m.length) = true := by rw [beq_iff_eq]; omega
  have q1 : ((l.length : Int) != m.length) = false := by rw [bne, q0]; rfl
  have HLEN := Lib.hid hlen
  clear hlen
  go_wp2
  go_loopw [5] (fun i wr => ∃ k : Nat, k ≤ l.length ∧ i = .int .i64 k ∧ (∃ s : Fut w, wr = s.val) ∧ ∀ j, j < k → l[j]?.getD 0 = m[j]?.getD 0) (fun i _ => l.length - (intOf i).toNat)
  case atStart => exact ⟨0, Nat.zero_le _, rfl, ⟨⟨w, Below.refl _ _⟩, rfl⟩, fun j hj => by omega⟩
  case round =>
    obtain ⟨k, hk, rfl, ⟨s, rfl⟩, hall⟩ := hrel
    have HALL := Lib.hid hall
    clear hall
    by_cases hkl : k < l.length
    · have hkm : k < m.length := by rw [← HLEN.out]; exact hkl
      obtain ⟨b1, o1, rfl, hc1⟩ := hl.2 (by omega)
      obtain ⟨b2, o2, rfl, hc2⟩ := hm.2 (by omega)
      have e1 := hc1 k hkl
      have e2 := hc2 k hkm
      obtain ⟨p, hp⟩ : ∃ p, l[k]?.getD 0 = p := ⟨_, rfl⟩
      obtain ⟨q, hq⟩ : ∃ q, m[k]?.getD 0 = q := ⟨_, rfl⟩
      rw [hp] at e1
      rw [hq] at e2
      have f1 : ∀ t : Fut w, t.val.cell? ⟨b1, o1 + k, none⟩ = some (.int .i64 p) := fun t => t.cell e1
      have f2 : ∀ t : Fut w, t.val.cell? ⟨b2, o2 + k, none⟩ = some (.int .i64 q) := fun t => t.cell e2
      have HP := Lib.hid hp
      have HQ := Lib.hid hq
      clear hp hq e1 e2 hc1 hc2 hl hm
      go_upto_region 6 with (fail)
      refine wp_region_futs s (by kernel_rfl) (lexOf lexSameI (by kernel_rfl)) ?_
      repeat (go_big_quiet_step (fail))
      refine wpQuiet_nil ?_
      intro s2
      by_cases hpq : p = q
      · have q2 : (p == q) = true := beq_iff_eq.2 hpq
        have q3 : (p != q) = false := by rw [bne, q2]; rfl
        go_wp2
        go_roundw
        case rel => exact ⟨k + 1, by omega, by go_num, ⟨s2, rfl⟩, fun j hj => by
          by_cases hjk : j = k
          · subst hjk; rw [HP.out, HQ.out, hpq]
          · exact HALL.out j (by omega)⟩
        case measure => simp [intOf]; omega
      · have q2 : (p == q) = false := beq_eq_false_iff_ne.2 hpq
        have q3 : (p != q) = true := by rw [bne, q2]; rfl
        have HN := Lib.hid (ne_at 0 HP.out HQ.out hpq)
        clear hpq
        go_wp2
        go_ret
        exact ⟨ret_bool (decide_eq_false HN.out), s2.below⟩
    · obtain rfl : k = l.length := by omega
      go_wp2
      go_ret
      exact ⟨ret_bool (decide_eq_true (eq_at 0 HLEN.out HALL.out)), s.below⟩
end Go.Proofs.Ytacnbdnmkmpldaa
