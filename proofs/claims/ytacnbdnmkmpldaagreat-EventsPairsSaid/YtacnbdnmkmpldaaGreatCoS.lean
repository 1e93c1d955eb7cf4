/- events.Co. -/
import Derived.Test.YtacnbdnmkmpldaaGreatEvP
import Derived.Test.YtacnbdnmkmpldaaGreatEvR
import Derived.Test.YtacnbdnmkmpldaaGreatEvH
import Derived.Test.YtacnbdnmkmpldaaGreatCoI
import Derived.Test.YtacnbdnmkmpldaaGreatRefC
import Derived.Test.YtacnbdnmkmpldaaGreatPure
namespace Go.Proofs.YtacnbdnmkmpldaaGreat
open Go Go.Proofs Go.RowKit Go.Sort Q
set_option linter.unusedSimpArgs false
set_option linter.unusedVariables false

theorem co_yes {x : Ex} (h : checkV x = 0) : coV x = sortP (coL x) := by unfold coV; rw [if_pos h]
theorem co_no {x : Ex} (h : ¬ checkV x = 0) : coV x = [] := by unfold coV; rw [if_neg h]
theorem order_row {x : Ex} (h : checkV x = 0) {l : List Int} (hl : l ∈ x.order) : l.length ≤ 64 ∧ ∀ d ∈ l, 0 ≤ d ∧ d < x.evs.length := by
  obtain ⟨h1, _, _, h4⟩ := check_zero h
  simp only [orderB, Bool.and_eq_true, beq_iff_eq, List.all_eq_true, List.mem_range] at h4
  obtain ⟨hlen, hall⟩ := h4
  obtain ⟨k, hk, rfl⟩ := List.getElem_of_mem hl
  have hk2 := hall k (by omega)
  rw [List.getD_eq_getElem?_getD, List.getElem?_eq_getElem hk] at hk2
  simp only [orderOk, Option.getD_some, Bool.and_eq_true, beq_iff_eq] at hk2
  obtain ⟨_, _, hs⟩ := hk2
  have hp := List.mergeSort_perm x.order[k] Q.leI
  rw [hs] at hp
  refine ⟨?_, fun d hd => ?_⟩
  · rw [← hp.length_eq]
    have := List.length_filter_le (fun n => stores (ev x n) && (ev x n).addr == (addrsOf x.evs).getD k 0) (List.range x.evs.length)
    simp only [storesAt, List.length_map, List.length_range] at this ⊢
    omega
  · have hd' := hp.mem_iff.2 hd
    simp only [storesAt, List.mem_map, List.mem_filter, List.mem_range] at hd'
    obtain ⟨n, ⟨hn, _⟩, rfl⟩ := hd'
    omega
theorem order_len {x : Ex} (h : checkV x = 0) : x.order.length ≤ 64 := by
  obtain ⟨h1, _, _, h4⟩ := check_zero h
  simp only [orderB, Bool.and_eq_true, beq_iff_eq, List.all_eq_true, List.mem_range] at h4
  have hall : addrsTo x x.evs.length = addrsOf x.evs := by simp [addrsTo, addrsOf]
  have hln : (addrsOf x.evs).length ≤ x.evs.length := by rw [← hall]; exact addrsTo_len x _ (Nat.le_refl _)
  omega
theorem ahead_mem : ∀ {l : List Int} {p : Int × Int}, p ∈ aheadL l → p.1 ∈ l ∧ p.2 ∈ l
  | a :: l, p, h => by
    rcases List.mem_append.1 (show p ∈ (l.map fun b => (a, b)) ++ aheadL l from h) with h | h
    · obtain ⟨b, hb, rfl⟩ := List.mem_map.1 h
      exact ⟨by simp, by simp [hb]⟩
    · have := ahead_mem h
      exact ⟨List.mem_cons_of_mem _ this.1, List.mem_cons_of_mem _ this.2⟩
theorem ahead_len : ∀ (l : List Int), l.length ≤ 64 → (aheadL l).length ≤ 64 * l.length
  | [], _ => by simp [aheadL]
  | a :: l, h => by
    have ih := ahead_len l (by simp at h; omega)
    have : (aheadL (a :: l)).length = l.length + (aheadL l).length := by simp [aheadL]
    rw [this]; simp at h ⊢; omega
theorem flat_len {α β : Type} (f : α → List β) (m : Nat) : ∀ (L : List α), (∀ l ∈ L, (f l).length ≤ m) → (L.flatMap f).length ≤ m * L.length
  | [], _ => by simp
  | a :: L, h => by
    have ih := flat_len f m L (fun l hl => h l (List.mem_cons_of_mem _ hl))
    have := h a (by simp)
    rw [List.flatMap_cons, List.length_append, List.length_cons, Nat.mul_add]; omega
theorem coL_places {x : Ex} (h : checkV x = 0) : ∀ p ∈ coL x, (0 ≤ p.1 ∧ p.1 < x.evs.length) ∧ 0 ≤ p.2 ∧ p.2 < x.evs.length := by
  intro p hp
  obtain ⟨l, hl, hpl⟩ := List.mem_flatMap.1 hp
  obtain ⟨m1, m2⟩ := ahead_mem hpl
  exact ⟨(order_row h hl).2 _ m1, (order_row h hl).2 _ m2⟩
theorem coL_len {x : Ex} (h : checkV x = 0) : (coL x).length ≤ 262144 := by
  have h1 := flat_len aheadL 4096 x.order (fun l hl => by have h2 := (order_row h hl).1; have := ahead_len l h2; omega)
  have := order_len h
  unfold coL; omega
theorem CapsOk.fut {w : World} {A : Option Addr} {l : List (List Int)} (h : CapsOk w A l.length) (hr : Q.Rows w A l) (s : Fut w) : CapsOk s.val A l.length := by
  intro b off hA j hj B n c hc
  obtain ⟨b', off', hA', hcs⟩ := hr.2 (by omega)
  rw [hA] at hA'; injection hA' with e; injection e with e1 e2; subst e1 e2
  obtain ⟨B', c', hcell, _⟩ := hcs j hj
  have h2 := s.cell hcell
  rw [hc] at h2
  injection h2 with h2; injection h2 with h3 h4 h5
  subst h3 h4 h5
  exact h _ _ hA j hj _ _ _ hcell

set_option maxRecDepth 100000 in
set_option maxHeartbeats 2000000 in
theorem co_any (x : Ex) (hok : ExOk x) (Ae Af Ao : Option Addr) (ce cf co : Nat) (w : World) (he : Evs w Ae x.evs) (hf : Ints w Af x.src) (ho : Q.Rows w Ao x.order) (hcap : CapsOk w Ao x.order.length) :
    Calls Tryz.prog 24 #[.agg #[.slice Ae x.evs.length ce, .slice Af x.src.length cf, .slice Ao x.order.length co]] w fun r w' =>
      ∃ A c, r = .returned (.slice A (coV x).length c) ∧ Prs w' A (coV x) ∧ Below w.heap.size w w' := by
  go_enter Tryz.func24, Tryz.ntmps24
  go_upto_region 1 with (fail)
  obtain ⟨W0, s0, hW0, hbx, hsz, b0, b1, b2⟩ := box3 w 26 (.slice Ae x.evs.length ce) (.slice Af x.src.length cf) (.slice Ao x.order.length co)
  rw [hW0]
  clear hW0
  have he0 := he.below hbx
  have hf1 := hf.below hbx
  have ho1 := ho.below hbx
  have hcp1 : CapsOk W0 Ao x.order.length := hcap.fut ho ⟨W0, hbx⟩
  have hend : ∀ s : Fut W0, Below w.heap.size w s.val := fun s => hbx.trans (s.below.mono (Nat.le_of_lt hsz))
  have HEND := Lib.hid hend
  clear hend he hf ho hcap
  have hes := he0.fut s0
  have hfs := hf1.fut s0
  have hos := ho1.fut s0
  have d0 := b0 s0
  have d1 := b1 s0
  have d2 := b2 s0
  go_wp2_with fail
  refine (check_any x hok Ae Af Ao ce cf co _ hes hfs hos).mono ?_
  rintro e w1 ⟨rfl, hb1⟩
  obtain ⟨s1, rfl⟩ : ∃ s1 : Fut W0, w1 = s1.val := ⟨⟨w1, s0.below.trans (hb1.mono s0.below.size)⟩, rfl⟩
  clear hes hfs hos d0 d1 d2 hb1
  by_cases hv : checkV x = 0
  · have q0 : (checkV x == 0) = true := by simp [hv]
    have q1 : (checkV x != 0) = false := by simp [hv]
    have hpl := coL_places hv
    have hln := coL_len hv
    obtain ⟨hc1, _, _, _⟩ := check_zero hv
    have hrs := ho1.fut s1
    have hst := co_stops 7 (by omega) w.heap.size Ao co x s1.val (Nat.lt_of_lt_of_le hsz s1.below.size) (b2 s1) hrs (hcp1.fut ho1 s1)
    have hP := pairs_any 59 #[.pointer (some ⟨w.heap.size, 0, none⟩)] (enters_of Tryz.func59 (by kernel_rfl) rfl) (coL x) (fun p hp => by have := hpl p hp; exact ⟨⟨by omega, by omega⟩, by omega, by omega⟩) (coL x).length (by omega) (Nat.le_refl _) s1.val hst
    rw [← co_yes hv] at hP
    have HP := Lib.hid hP
    have HV := Lib.hid hv
    clear hP hv hst hln hrs hpl
    go_wp2_with (go_at_call 56; refine HP.out.mono ?_; rintro e w' ⟨A, c, rfl, hp, hb⟩)
    go_ret
    exact ⟨A, c, rfl, hp, (HEND.out s1).trans (hb.mono (HEND.out s1).size)⟩
  · have q0 : (checkV x == 0) = false := by simp [hv]
    have q1 : (checkV x != 0) = true := by simp [hv]
    have HV := Lib.hid hv
    clear hv
    go_wp2
    go_ret
    have hn := co_no HV.out
    exact ⟨none, 0, by rw [hn]; rfl, ⟨by rw [hn]; simp, fun h => by rw [hn] at h; simp at h⟩, HEND.out s1⟩
end Go.Proofs.YtacnbdnmkmpldaaGreat
