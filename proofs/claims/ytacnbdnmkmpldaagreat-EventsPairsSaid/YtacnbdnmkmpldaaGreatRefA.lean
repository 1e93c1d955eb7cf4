/- The reference's small functions: bare. -/
import Derived.Test.YtacnbdnmkmpldaaGreatEvC
namespace Go.Proofs.YtacnbdnmkmpldaaGreat
open Go.RowKit Q
set_option linter.unusedSimpArgs false
set_option linter.unusedVariables false

theorem rbare1 {h a v r p s k : Int} {aq rl rs : Bool} {la ld lc : List Int} (h1 : (decide (k < 1) || decide (5 < k) || decide (p < 0) || decide (3 < p) || decide (s < 0) || decide (3 < s)) = true) :
    bareB ⟨h, k, a, v, r, aq, rl, p, s, rs, la, ld, lc⟩ = false := by
  simp only [Bool.or_eq_true, decide_eq_true_eq] at h1
  rw [Bool.eq_false_iff]; intro hb
  simp only [bareB, fenceZ] at hb
  split at hb
  · simp at hb; omega
  split at hb
  · simp at hb; omega
  split at hb
  · simp at hb; omega
  split at hb
  · simp at hb; omega
  split at hb
  · simp at hb; omega
  · cases hb
theorem rkinds {p s k : Int} (h1 : (decide (k < 1) || decide (5 < k) || decide (p < 0) || decide (3 < p) || decide (s < 0) || decide (3 < s)) = false) :
    (k = 1 ∨ k = 2 ∨ k = 3 ∨ k = 4 ∨ k = 5) ∧ 0 ≤ p ∧ p ≤ 3 ∧ 0 ≤ s ∧ s ≤ 3 := by
  simp only [Bool.or_eq_false_iff, decide_eq_false_iff_not] at h1; omega
theorem rbare2 {h a v r p s k : Int} {aq rl rs : Bool} {la ld lc : List Int} (h1 : (decide (k < 1) || decide (5 < k) || decide (p < 0) || decide (3 < p) || decide (s < 0) || decide (3 < s)) = false)
    (h2 : (k != 4 && (p != 0 || s != 0) || (k == 4 || k == 5) && (aq || rl) || k != 1 && k != 2 && rs) = true) : bareB ⟨h, k, a, v, r, aq, rl, p, s, rs, la, ld, lc⟩ = false := by
  rw [Bool.eq_false_iff]; intro hb
  obtain ⟨hk, h0⟩ := rkinds h1
  clear h1
  rcases hk with rfl | rfl | rfl | rfl | rfl <;> cases aq <;> cases rl <;> cases rs <;> simp [bareB, fenceZ] at hb h2 <;> omega
theorem rbare3 {h a v r p s k : Int} {aq rl rs : Bool} {la ld lc : List Int} (h1 : (decide (k < 1) || decide (5 < k) || decide (p < 0) || decide (3 < p) || decide (s < 0) || decide (3 < s)) = false)
    (h3 : (!k == 2 && !k == 3 && !k == 5 && v != 0 || !k == 1 && !k == 3 && r != 0 || k == 4 && a != 0) = true) : bareB ⟨h, k, a, v, r, aq, rl, p, s, rs, la, ld, lc⟩ = false := by
  rw [Bool.eq_false_iff]; intro hb
  obtain ⟨hk, h0⟩ := rkinds h1
  clear h1
  rcases hk with rfl | rfl | rfl | rfl | rfl <;> simp [bareB, fenceZ] at hb h3 <;> omega
theorem rbare4 {h a v r p s k : Int} {aq rl rs : Bool} {la ld lc : List Int} (h1 : (decide (k < 1) || decide (5 < k) || decide (p < 0) || decide (3 < p) || decide (s < 0) || decide (3 < s)) = false)
    (h2 : (k != 4 && (p != 0 || s != 0) || (k == 4 || k == 5) && (aq || rl) || k != 1 && k != 2 && rs) = false)
    (h3 : (!k == 2 && !k == 3 && !k == 5 && v != 0 || !k == 1 && !k == 3 && r != 0 || k == 4 && a != 0) = false) :
    bareB ⟨h, k, a, v, r, aq, rl, p, s, rs, la, ld, lc⟩ = ((k == 2 || k == 3 || (ld.length : Int) == 0) && (decide (k < 4) || (la.length : Int) == 0) && (decide (k < 5) || (lc.length : Int) == 0 && h == -1)) := by
  rw [Bool.eq_iff_iff]
  obtain ⟨hk, h0⟩ := rkinds h1
  clear h1
  rcases hk with rfl | rfl | rfl | rfl | rfl <;> cases aq <;> cases rl <;> cases rs <;> simp [bareB, fenceZ, isEmpty_len, -List.length_eq_zero_iff] at h2 h3 ⊢ <;> (try omega)

set_option maxRecDepth 100000 in
set_option maxHeartbeats 4000000 in
theorem rbare_any (e : Ev) (A D C : Option Addr) (ca cd cc : Nat) (w : World) (ha : e.addrs.length ≤ 17592186044416) (hd : e.datas.length ≤ 17592186044416) (hc : e.ctrls.length ≤ 17592186044416) :
    Calls Tryz.prog 62 #[.agg #[.int .i64 e.hart, .int .i64 e.kind, .int .u32 e.addr, .int .u32 e.value, .int .u32 e.readv, .bool e.aq, .bool e.rl, .int .i64 e.pred, .int .i64 e.succ, .bool e.resv, .slice A e.addrs.length ca, .slice D e.datas.length cd, .slice C e.ctrls.length cc]] w fun r w' =>
      r = .returned (.bool (bareB e)) ∧ Below w.heap.size w w' := by
  obtain ⟨h, k, a, v, r, aq, rl, p, s, rs, la, ld, lc⟩ := e
  dsimp only at ha hd hc ⊢
  go_enter Tryz.func62, Tryz.ntmps62
  go_upto_region 1 with (fail)
  obtain ⟨W0, s0, hW0, hbx, hsz, f0, f1, f2, f3, f4, f5, f6, f7, f8, f9, f10, f11, f12⟩ := box13 w 42 (.int .i64 h) (.int .i64 k) (.int .u32 a) (.int .u32 v) (.int .u32 r) (.bool aq) (.bool rl) (.int .i64 p) (.int .i64 s) (.bool rs) (.slice A la.length ca) (.slice D ld.length cd) (.slice C lc.length cc)
  rw [hW0]
  clear hW0
  refine wp_region_futps s0 ?_
  repeat (first
    | (refine wpQuiet_or rfl rfl rfl rfl ?_; simp only [Act.put, List.setIfInBounds_toArray, List.set_cons_succ, List.set_cons_zero])
    | (refine wpQuiet_and rfl rfl rfl rfl ?_; simp only [Act.put, List.setIfInBounds_toArray, List.set_cons_succ, List.set_cons_zero])
    | go_big_quiet_skip
    | (go_big_quiet_want; go_big_quiet_op; first | go_big_quiet_on | go_big_quiet_call ((fail)))
    | (refine wpQuiet_dead (by first | exact wanted_t rfl rfl rfl | exact wanted_f rfl rfl rfl | exact wanted_ts rfl rfl rfl | exact wanted_fs rfl rfl rfl) rfl (of_decide_eq_true rfl) (by simp only [Bool.not_true, Bool.and_false, Bool.false_and, Bool.or_true, Bool.true_or]) ?_; simp only [Act.put, List.setIfInBounds_toArray, List.set_cons_succ, List.set_cons_zero])
    | (refine wpQuiet_or_und rfl (by first | exact wanted_t rfl rfl rfl | exact wanted_f rfl rfl rfl | exact wanted_ts rfl rfl rfl | exact wanted_fs rfl rfl rfl) rfl (of_decide_eq_true rfl) rfl rfl ?_; simp only [Act.put, List.setIfInBounds_toArray, List.set_cons_succ, List.set_cons_zero])
    | (refine wpQuiet_and_und rfl (by first | exact wanted_t rfl rfl rfl | exact wanted_f rfl rfl rfl | exact wanted_ts rfl rfl rfl | exact wanted_fs rfl rfl rfl) rfl (of_decide_eq_true rfl) rfl rfl ?_; simp only [Act.put, List.setIfInBounds_toArray, List.set_cons_succ, List.set_cons_zero])
    | (refine wpQuiet_und (by first | exact wanted_t rfl rfl rfl | exact wanted_f rfl rfl rfl | exact wanted_ts rfl rfl rfl | exact wanted_fs rfl rfl rfl) rfl (of_decide_eq_true rfl) ?_
       apply Exists.intro
       refine ⟨fun hb => ?_, ?_⟩
       · (skip)
         (try simp only [sel_of hb])
         (try (have hb1 := and_l hb; (try simp only [sel_of hb1]); (try (have hb2 := and_l hb1; (try simp only [sel_of hb2]); (try (have hb3 := and_l hb2; (try simp only [sel_of hb3])))))))
         go_big_quiet_op
         first | ((show Act.eval _ (Operand.tmp _) = _); conv => (lhs; whnf)) | (apply Exists.intro; refine ⟨fun _ => ?_, ?_⟩; (focus (fail)); ((show Act.eval _ (Operand.tmp _) = _); conv => (lhs; whnf)))
       simp only [Act.put, List.setIfInBounds_toArray, List.set_cons_succ, List.set_cons_zero]))
  refine wpQuiet_nil ?_
  intro s1
  go_upto_region 2 with (fail)
  refine wp_region_futps s1 ?_
  repeat (first
    | (refine wpQuiet_or rfl rfl rfl rfl ?_; simp only [Act.put, List.setIfInBounds_toArray, List.set_cons_succ, List.set_cons_zero])
    | (refine wpQuiet_and rfl rfl rfl rfl ?_; simp only [Act.put, List.setIfInBounds_toArray, List.set_cons_succ, List.set_cons_zero])
    | go_big_quiet_skip
    | (go_big_quiet_want; go_big_quiet_op; first | go_big_quiet_on | go_big_quiet_call ((fail)))
    | (refine wpQuiet_dead (by first | exact wanted_t rfl rfl rfl | exact wanted_f rfl rfl rfl | exact wanted_ts rfl rfl rfl | exact wanted_fs rfl rfl rfl) rfl (of_decide_eq_true rfl) (by simp only [Bool.not_true, Bool.and_false, Bool.false_and, Bool.or_true, Bool.true_or]) ?_; simp only [Act.put, List.setIfInBounds_toArray, List.set_cons_succ, List.set_cons_zero])
    | (refine wpQuiet_or_und rfl (by first | exact wanted_t rfl rfl rfl | exact wanted_f rfl rfl rfl | exact wanted_ts rfl rfl rfl | exact wanted_fs rfl rfl rfl) rfl (of_decide_eq_true rfl) rfl rfl ?_; simp only [Act.put, List.setIfInBounds_toArray, List.set_cons_succ, List.set_cons_zero])
    | (refine wpQuiet_and_und rfl (by first | exact wanted_t rfl rfl rfl | exact wanted_f rfl rfl rfl | exact wanted_ts rfl rfl rfl | exact wanted_fs rfl rfl rfl) rfl (of_decide_eq_true rfl) rfl rfl ?_; simp only [Act.put, List.setIfInBounds_toArray, List.set_cons_succ, List.set_cons_zero])
    | (refine wpQuiet_und (by first | exact wanted_t rfl rfl rfl | exact wanted_f rfl rfl rfl | exact wanted_ts rfl rfl rfl | exact wanted_fs rfl rfl rfl) rfl (of_decide_eq_true rfl) ?_
       apply Exists.intro
       refine ⟨fun hb => ?_, ?_⟩
       · (skip)
         (try simp only [sel_of hb])
         (try (have hb1 := and_l hb; (try simp only [sel_of hb1]); (try (have hb2 := and_l hb1; (try simp only [sel_of hb2]); (try (have hb3 := and_l hb2; (try simp only [sel_of hb3])))))))
         go_big_quiet_op
         first | ((show Act.eval _ (Operand.tmp _) = _); conv => (lhs; whnf)) | (apply Exists.intro; refine ⟨fun _ => ?_, ?_⟩; (focus (fail)); ((show Act.eval _ (Operand.tmp _) = _); conv => (lhs; whnf)))
       simp only [Act.put, List.setIfInBounds_toArray, List.set_cons_succ, List.set_cons_zero]))
  refine wpQuiet_nil ?_
  intro s1
  generalize h1 : (decide (k < 1) || decide (5 < k) || decide (p < 0) || decide (3 < p) || decide (s < 0) || decide (3 < s)) = b1
  have H1 := Lib.hid h1
  clear h1
  cases b1
  case true =>
    go_wp2
    go_ret
    exact ⟨ret_bool (rbare1 H1.out), hbx.trans (s1.below.mono (Nat.le_of_lt hsz))⟩
  go_upto_region 4 with (fail)
  refine wp_region_futps s1 ?_
  repeat (first
    | (refine wpQuiet_or rfl rfl rfl rfl ?_; simp only [Act.put, List.setIfInBounds_toArray, List.set_cons_succ, List.set_cons_zero])
    | (refine wpQuiet_and rfl rfl rfl rfl ?_; simp only [Act.put, List.setIfInBounds_toArray, List.set_cons_succ, List.set_cons_zero])
    | go_big_quiet_skip
    | (go_big_quiet_want; go_big_quiet_op; first | go_big_quiet_on | go_big_quiet_call ((fail)))
    | (refine wpQuiet_dead (by first | exact wanted_t rfl rfl rfl | exact wanted_f rfl rfl rfl | exact wanted_ts rfl rfl rfl | exact wanted_fs rfl rfl rfl) rfl (of_decide_eq_true rfl) (by simp only [Bool.not_true, Bool.and_false, Bool.false_and, Bool.or_true, Bool.true_or]) ?_; simp only [Act.put, List.setIfInBounds_toArray, List.set_cons_succ, List.set_cons_zero])
    | (refine wpQuiet_or_und rfl (by first | exact wanted_t rfl rfl rfl | exact wanted_f rfl rfl rfl | exact wanted_ts rfl rfl rfl | exact wanted_fs rfl rfl rfl) rfl (of_decide_eq_true rfl) rfl rfl ?_; simp only [Act.put, List.setIfInBounds_toArray, List.set_cons_succ, List.set_cons_zero])
    | (refine wpQuiet_and_und rfl (by first | exact wanted_t rfl rfl rfl | exact wanted_f rfl rfl rfl | exact wanted_ts rfl rfl rfl | exact wanted_fs rfl rfl rfl) rfl (of_decide_eq_true rfl) rfl rfl ?_; simp only [Act.put, List.setIfInBounds_toArray, List.set_cons_succ, List.set_cons_zero])
    | (refine wpQuiet_und (by first | exact wanted_t rfl rfl rfl | exact wanted_f rfl rfl rfl | exact wanted_ts rfl rfl rfl | exact wanted_fs rfl rfl rfl) rfl (of_decide_eq_true rfl) ?_
       apply Exists.intro
       refine ⟨fun hb => ?_, ?_⟩
       · (skip)
         (try simp only [sel_of hb])
         (try (have hb1 := and_l hb; (try simp only [sel_of hb1]); (try (have hb2 := and_l hb1; (try simp only [sel_of hb2]); (try (have hb3 := and_l hb2; (try simp only [sel_of hb3])))))))
         go_big_quiet_op
         first | ((show Act.eval _ (Operand.tmp _) = _); conv => (lhs; whnf)) | (apply Exists.intro; refine ⟨fun _ => ?_, ?_⟩; (focus (fail)); ((show Act.eval _ (Operand.tmp _) = _); conv => (lhs; whnf)))
       simp only [Act.put, List.setIfInBounds_toArray, List.set_cons_succ, List.set_cons_zero]))
  refine wpQuiet_nil ?_
  intro s1
  generalize h2 : (k != 4 && (p != 0 || s != 0) || (k == 4 || k == 5) && (aq || rl) || k != 1 && k != 2 && rs) = b2
  have H2 := Lib.hid h2
  clear h2
  cases b2
  case true =>
    go_wp2
    go_ret
    exact ⟨ret_bool (rbare2 H1.out H2.out), hbx.trans (s1.below.mono (Nat.le_of_lt hsz))⟩
  go_upto_region 6 with (fail)
  refine wp_region_futps s1 ?_
  repeat (first
    | (refine wpQuiet_or rfl rfl rfl rfl ?_; simp only [Act.put, List.setIfInBounds_toArray, List.set_cons_succ, List.set_cons_zero])
    | (refine wpQuiet_and rfl rfl rfl rfl ?_; simp only [Act.put, List.setIfInBounds_toArray, List.set_cons_succ, List.set_cons_zero])
    | go_big_quiet_skip
    | (go_big_quiet_want; go_big_quiet_op; first | go_big_quiet_on | go_big_quiet_call ((first | (go_at_call 65; exact fut_call _ (rstores_any _ _ _ _ _ _ _ _ _ _ _ _ _ _)) | (go_at_call 64; exact fut_call _ (rloads_any _ _ _ _ _ _ _ _ _ _ _ _ _ _)))))
    | (refine wpQuiet_dead (by first | exact wanted_t rfl rfl rfl | exact wanted_f rfl rfl rfl | exact wanted_ts rfl rfl rfl | exact wanted_fs rfl rfl rfl) rfl (of_decide_eq_true rfl) (by simp only [Bool.not_true, Bool.and_false, Bool.false_and, Bool.or_true, Bool.true_or]) ?_; simp only [Act.put, List.setIfInBounds_toArray, List.set_cons_succ, List.set_cons_zero])
    | (refine wpQuiet_or_und rfl (by first | exact wanted_t rfl rfl rfl | exact wanted_f rfl rfl rfl | exact wanted_ts rfl rfl rfl | exact wanted_fs rfl rfl rfl) rfl (of_decide_eq_true rfl) rfl rfl ?_; simp only [Act.put, List.setIfInBounds_toArray, List.set_cons_succ, List.set_cons_zero])
    | (refine wpQuiet_and_und rfl (by first | exact wanted_t rfl rfl rfl | exact wanted_f rfl rfl rfl | exact wanted_ts rfl rfl rfl | exact wanted_fs rfl rfl rfl) rfl (of_decide_eq_true rfl) rfl rfl ?_; simp only [Act.put, List.setIfInBounds_toArray, List.set_cons_succ, List.set_cons_zero])
    | (refine wpQuiet_und (by first | exact wanted_t rfl rfl rfl | exact wanted_f rfl rfl rfl | exact wanted_ts rfl rfl rfl | exact wanted_fs rfl rfl rfl) rfl (of_decide_eq_true rfl) ?_
       apply Exists.intro
       refine ⟨fun hb => ?_, ?_⟩
       · (skip)
         (try simp only [sel_of hb])
         (try (have hb1 := and_l hb; (try simp only [sel_of hb1]); (try (have hb2 := and_l hb1; (try simp only [sel_of hb2]); (try (have hb3 := and_l hb2; (try simp only [sel_of hb3])))))))
         go_big_quiet_op
         first | ((show Act.eval _ (Operand.tmp _) = _); conv => (lhs; whnf)) | (apply Exists.intro; refine ⟨fun _ => ?_, ?_⟩; (focus (first | (go_at_call 65; exact fut_call _ (rstores_any _ _ _ _ _ _ _ _ _ _ _ _ _ _)) | (go_at_call 64; exact fut_call _ (rloads_any _ _ _ _ _ _ _ _ _ _ _ _ _ _)))); ((show Act.eval _ (Operand.tmp _) = _); conv => (lhs; whnf)))
       simp only [Act.put, List.setIfInBounds_toArray, List.set_cons_succ, List.set_cons_zero]))
  refine wpQuiet_nil ?_
  intro s1
  generalize h3 : (!k == 2 && !k == 3 && !k == 5 && v != 0 || !k == 1 && !k == 3 && r != 0 || k == 4 && a != 0) = b3
  have H3 := Lib.hid h3
  clear h3
  cases b3
  case true =>
    go_wp2
    go_ret
    exact ⟨ret_bool (rbare3 H1.out H3.out), hbx.trans (s1.below.mono (Nat.le_of_lt hsz))⟩
  go_upto_region 8 with (fail)
  refine wp_region_futps s1 ?_
  repeat (first
    | (refine wpQuiet_or rfl rfl rfl rfl ?_; simp only [Act.put, List.setIfInBounds_toArray, List.set_cons_succ, List.set_cons_zero])
    | (refine wpQuiet_and rfl rfl rfl rfl ?_; simp only [Act.put, List.setIfInBounds_toArray, List.set_cons_succ, List.set_cons_zero])
    | go_big_quiet_skip
    | (go_big_quiet_want; go_big_quiet_op; first | go_big_quiet_on | go_big_quiet_call ((fail)))
    | (refine wpQuiet_dead (by first | exact wanted_t rfl rfl rfl | exact wanted_f rfl rfl rfl | exact wanted_ts rfl rfl rfl | exact wanted_fs rfl rfl rfl) rfl (of_decide_eq_true rfl) (by simp only [Bool.not_true, Bool.and_false, Bool.false_and, Bool.or_true, Bool.true_or]) ?_; simp only [Act.put, List.setIfInBounds_toArray, List.set_cons_succ, List.set_cons_zero])
    | (refine wpQuiet_or_und rfl (by first | exact wanted_t rfl rfl rfl | exact wanted_f rfl rfl rfl | exact wanted_ts rfl rfl rfl | exact wanted_fs rfl rfl rfl) rfl (of_decide_eq_true rfl) rfl rfl ?_; simp only [Act.put, List.setIfInBounds_toArray, List.set_cons_succ, List.set_cons_zero])
    | (refine wpQuiet_and_und rfl (by first | exact wanted_t rfl rfl rfl | exact wanted_f rfl rfl rfl | exact wanted_ts rfl rfl rfl | exact wanted_fs rfl rfl rfl) rfl (of_decide_eq_true rfl) rfl rfl ?_; simp only [Act.put, List.setIfInBounds_toArray, List.set_cons_succ, List.set_cons_zero])
    | (refine wpQuiet_und (by first | exact wanted_t rfl rfl rfl | exact wanted_f rfl rfl rfl | exact wanted_ts rfl rfl rfl | exact wanted_fs rfl rfl rfl) rfl (of_decide_eq_true rfl) ?_
       apply Exists.intro
       refine ⟨fun hb => ?_, ?_⟩
       · (skip)
         (try simp only [sel_of hb])
         (try (have hb1 := and_l hb; (try simp only [sel_of hb1]); (try (have hb2 := and_l hb1; (try simp only [sel_of hb2]); (try (have hb3 := and_l hb2; (try simp only [sel_of hb3])))))))
         go_big_quiet_op
         first | ((show Act.eval _ (Operand.tmp _) = _); conv => (lhs; whnf)) | (apply Exists.intro; refine ⟨fun _ => ?_, ?_⟩; (focus (fail)); ((show Act.eval _ (Operand.tmp _) = _); conv => (lhs; whnf)))
       simp only [Act.put, List.setIfInBounds_toArray, List.set_cons_succ, List.set_cons_zero]))
  refine wpQuiet_nil ?_
  intro s1
  go_wp2
  go_ret
  exact ⟨ret_bool (rbare4 H1.out H2.out H3.out), hbx.trans (s1.below.mono (Nat.le_of_lt hsz))⟩
end Go.Proofs.YtacnbdnmkmpldaaGreat
