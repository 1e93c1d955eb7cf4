/- events.Acyclic's first test: is there an arrow of which a place is not there? -/
import Derived.Test.YtacnbdnmkmpldaaGreatSortP
import Derived.Test.YtacnbdnmkmpldaaGreatPure
import Derived.Test.YtacnbdnmkmpldaaGreatEvC
namespace Go.Proofs.YtacnbdnmkmpldaaGreat
open Go Go.Proofs Go.RowKit Q
set_option linter.unusedSimpArgs false
set_option linter.unusedVariables false

theorem outP_eq (n a b : Int) : outP n (a, b) = (decide (a < 0) || decide (n ≤ a) || decide (b < 0) || decide (n ≤ b)) := by simp [outP, Bool.or_assoc]

set_option maxRecDepth 100000 in
set_option maxHeartbeats 2000000 in
theorem out_any (n a b : Int) (Bn : Nat) (w : World) (hn : w.cell? ⟨Bn, 0, none⟩ = some (.int .i64 n)) :
    Calls Tryz.prog 93 #[.agg #[.int .i64 a, .int .i64 b], .pointer (some ⟨Bn, 0, none⟩)] w fun e w' => e = .returned (.bool (outP n (a, b))) ∧ Below w.heap.size w w' := by
  go_enter Tryz.func93, Tryz.ntmps93
  go_upto_region 1 with (fail)
  have hbl := World.block_lt_of_cell? w _ hn
  obtain ⟨W0, hW0⟩ : ∃ W0, w.alloc (.cells #[.int .i64 a, .int .i64 b] 38) = W0 := ⟨_, rfl⟩
  have hB : Below w.heap.size w W0 := by rw [← hW0]; exact (Below.refl _ _).alloc (Nat.le_refl _) _
  have hc0 : W0.cell? ⟨w.heap.size, 0, none⟩ = some (.int .i64 a) := by rw [← hW0]; simp
  have hc1 : W0.cell? ⟨w.heap.size, 1, none⟩ = some (.int .i64 b) := by rw [← hW0]; simp
  have hcn : W0.cell? ⟨Bn, 0, none⟩ = some (.int .i64 n) := (hB.cell (p := ⟨Bn, 0, none⟩) hbl).trans hn
  have b0 : ∀ s : Fut W0, s.val.cell? ⟨w.heap.size, 0, none⟩ = some (.int .i64 a) := fun s => s.cell hc0
  have b1 : ∀ s : Fut W0, s.val.cell? ⟨w.heap.size, 1, none⟩ = some (.int .i64 b) := fun s => s.cell hc1
  have b2 : ∀ s : Fut W0, s.val.cell? ⟨Bn, 0, none⟩ = some (.int .i64 n) := fun s => s.cell hcn
  rw [hW0]
  clear hW0 hc0 hc1 hcn hn
  refine wp_region_futps (⟨W0, Below.refl _ _⟩ : Fut W0) ?_
  repeat (first
    | (refine wpQuiet_or rfl rfl rfl rfl ?_; simp only [Act.put, List.setIfInBounds_toArray, List.set_cons_succ, List.set_cons_zero])
    | (refine wpQuiet_and rfl rfl rfl rfl ?_; simp only [Act.put, List.setIfInBounds_toArray, List.set_cons_succ, List.set_cons_zero])
    | go_big_quiet_skip
    | (go_big_quiet_want; go_big_quiet_op; first | go_big_quiet_on | go_big_quiet_call ((fail)))
    | (refine wpQuiet_dead (by first | exact wanted_t rfl rfl rfl | exact wanted_f rfl rfl rfl | exact wanted_ts rfl rfl rfl | exact wanted_fs rfl rfl rfl) rfl (of_decide_eq_true rfl) (by simp only [Bool.not_true, Bool.and_false, Bool.false_and, Bool.or_true, Bool.true_or]) ?_; simp only [Act.put, List.setIfInBounds_toArray, List.set_cons_succ, List.set_cons_zero])
    | (refine wpQuiet_or_und rfl (by first | exact wanted_t rfl rfl rfl | exact wanted_f rfl rfl rfl | exact wanted_ts rfl rfl rfl | exact wanted_fs rfl rfl rfl) rfl (of_decide_eq_true rfl) rfl rfl ?_; simp only [Act.put, List.setIfInBounds_toArray, List.set_cons_succ, List.set_cons_zero])
    | (refine wpQuiet_and_und rfl (by first | exact wanted_t rfl rfl rfl | exact wanted_f rfl rfl rfl | exact wanted_ts rfl rfl rfl | exact wanted_fs rfl rfl rfl) rfl (of_decide_eq_true rfl) rfl rfl ?_; simp only [Act.put, List.setIfInBounds_toArray, List.set_cons_succ, List.set_cons_zero])
    | (refine wpQuiet_und (by first | exact wanted_t rfl rfl rfl | exact wanted_f rfl rfl rfl | exact wanted_ts rfl rfl rfl | exact wanted_fs rfl rfl rfl) rfl (of_decide_eq_true rfl) ?_
       apply Exists.intro
       refine ⟨fun hb => ?_, ?_⟩
       · (skip)
         (try simp only [sel_of hb])
         (try (have hb1 := and_l hb; (try simp only [sel_of hb1]); (try (have hb2 := and_l hb1; (try simp only [sel_of hb2]); (try (have hb3 := and_l hb2; (try simp only [sel_of hb3])))))))
         go_big_quiet_op
         first | ((show Act.eval _ (Operand.tmp _) = _); conv => (lhs; whnf)) | (apply Exists.intro; refine ⟨fun _ => ?_, ?_⟩; (focus (fail)); ((show Act.eval _ (Operand.tmp _) = _); conv => (lhs; whnf)))
       simp only [Act.put, List.setIfInBounds_toArray, List.set_cons_succ, List.set_cons_zero]))
  refine wpQuiet_nil ?_
  intro s1
  go_wp2
  go_ret
  exact ⟨ret_bool (outP_eq n a b), hB.trans (s1.below.mono hB.size)⟩

theorem any_take_succ (p : Int × Int → Bool) (l : List (Int × Int)) {k : Nat} {x : Int × Int} (hk : k < l.length) (hx : l[k]?.getD (0, 0) = x) : (l.take (k + 1)).any p = ((l.take k).any p || p x) := by
  rw [List.getElem?_eq_getElem hk] at hx
  rw [List.take_add_one, List.getElem?_eq_getElem hk, List.any_append]
  simp only [Option.toList_some, List.any_cons, List.any_nil, Bool.or_false]
  rw [← hx]; rfl
theorem any_at (p : Int × Int → Bool) (l : List (Int × Int)) {k : Nat} {x : Int × Int} (hk : k < l.length) (hx : l[k]?.getD (0, 0) = x) (h : p x = true) : l.any p = true := by
  rw [List.getElem?_eq_getElem hk] at hx
  exact List.any_eq_true.2 ⟨l[k], List.getElem_mem hk, by rw [show l[k] = x from hx]; exact h⟩

set_option maxRecDepth 100000 in
set_option maxHeartbeats 2000000 in
theorem index_any (n : Int) (Bn : Nat) (l : List (Int × Int)) (A : Option Addr) (c : Nat) (w : World) (hn : w.cell? ⟨Bn, 0, none⟩ = some (.int .i64 n)) (hl : Prs w A l) :
    Calls Tryz.prog 140 #[.slice A l.length c, .func (.func 93) #[] #[.pointer (some ⟨Bn, 0, none⟩)]] w fun e w' =>
      ∃ i : Int, e = .returned (.int .i64 i) ∧ decide (0 ≤ i) = l.any (outP n) ∧ Below w.heap.size w w' := by
  have hl0 := hl.1
  go_enter Tryz.func140, Tryz.ntmps140
  go_wp2
  go_loopw [8] (fun i wr => ∃ k : Nat, k ≤ l.length ∧ i = .int .i64 k ∧ (l.take k).any (outP n) = false ∧ ∃ s : Fut w, wr = s.val) (fun i _ => l.length - (intOf i).toNat)
  case atStart => exact ⟨0, Nat.zero_le _, rfl, rfl, ⟨w, Below.refl _ _⟩, rfl⟩
  case round =>
    obtain ⟨k, hk, rfl, hany, s, rfl⟩ := hrel
    have HANY := Lib.hid hany
    clear hany
    by_cases hlt : k < l.length
    · obtain ⟨b, off, rfl, hcs⟩ := (hl.fut s).2 (by omega)
      obtain ⟨hc0, hc1⟩ := hcs k hlt
      obtain ⟨x, hx⟩ : ∃ x, l[k]?.getD (0, 0) = x := ⟨_, rfl⟩
      rw [hx] at hc0 hc1
      obtain ⟨x0, x1⟩ := x
      dsimp only at hc0 hc1
      have hcn := s.cell hn
      have HX := Lib.hid hx
      clear hx hcs hl hn
      go_wp2_with (go_at_call 93; refine (out_any n x0 x1 Bn _ hcn).mono ?_; rintro e w' ⟨rfl, hb⟩; generalize ho : outP n (x0, x1) = bo; have HO := Lib.hid ho; clear ho; cases bo)
      · go_roundw
        case rel => exact ⟨k + 1, by omega, by go_num, by rw [any_take_succ _ _ hlt HX.out, HANY.out, HO.out]; rfl, ⟨w', s.below.trans (hb.mono s.below.size)⟩, rfl⟩
        case measure => simp [intOf]; omega
      · go_ret
        exact ⟨k, rfl, by rw [any_at _ _ hlt HX.out HO.out]; simp, s.below.trans (hb.mono s.below.size)⟩
    · obtain rfl : k = l.length := by omega
      go_wp2
      go_ret
      have := HANY.out
      rw [List.take_length] at this
      exact ⟨-1, rfl, by rw [this]; rfl, s.below⟩

set_option maxRecDepth 100000 in
set_option maxHeartbeats 2000000 in
theorem contains_any (n : Int) (Bn : Nat) (l : List (Int × Int)) (A : Option Addr) (c : Nat) (w : World) (hn : w.cell? ⟨Bn, 0, none⟩ = some (.int .i64 n)) (hl : Prs w A l) :
    Calls Tryz.prog 92 #[.slice A l.length c, .func (.func 93) #[] #[.pointer (some ⟨Bn, 0, none⟩)]] w fun e w' =>
      e = .returned (.bool (l.any (outP n))) ∧ Below w.heap.size w w' := by
  have hl0 := hl.1
  have hI := Lib.hid (index_any n Bn l A c w hn hl)
  go_enter Tryz.func92, Tryz.ntmps92
  go_wp2_with (go_at_call 140; refine hI.out.mono ?_; rintro e w' ⟨i, rfl, hi, hb⟩; have HI := Lib.hid hi; clear hi)
  go_ret
  exact ⟨ret_bool HI.out.symm, hb⟩
end Go.Proofs.YtacnbdnmkmpldaaGreat
