/- Equal events: events.same. -/
import Derived.Test.YtacnbdnmkmpldaaSmI
namespace Go.Proofs.Ytacnbdnmkmpldaa
open Go Go.Proofs Go.RowKit Q
set_option linter.unusedSimpArgs false
set_option linter.unusedVariables false

theorem ev_eq_iff (a b : Ev) : a = b ↔ (a.addrs = b.addrs ∧ a.datas = b.datas ∧ a.ctrls = b.ctrls ∧ a.hart = b.hart ∧ a.kind = b.kind ∧ a.addr = b.addr ∧ a.value = b.value ∧ a.readv = b.readv ∧ a.aq = b.aq ∧ a.rl = b.rl ∧ a.pred = b.pred ∧ a.succ = b.succ ∧ a.resv = b.resv) := by
  constructor
  · rintro rfl; simp
  · obtain ⟨h, k, ad, v, r, aq, rl, p, s, rs, la, ld, lc⟩ := a
    obtain ⟨h', k', ad', v', r', aq', rl', p', s', rs', la', ld', lc'⟩ := b
    simp only
    rintro ⟨rfl, rfl, rfl, rfl, rfl, rfl, rfl, rfl, rfl, rfl, rfl, rfl, rfl⟩; rfl
instance evDec : DecidableEq Ev := fun a b => decidable_of_iff' _ (ev_eq_iff a b)

/-- An event as a value. -/
def evV (e : Ev) (A D C : Option Addr) (ca cd cc : Nat) : Value := .agg #[.int .i64 e.hart, .int .i64 e.kind, .int .u32 e.addr, .int .u32 e.value, .int .u32 e.readv, .bool e.aq, .bool e.rl, .int .i64 e.pred, .int .i64 e.succ, .bool e.resv, .slice A e.addrs.length ca, .slice D e.datas.length cd, .slice C e.ctrls.length cc]

set_option maxRecDepth 100000 in
set_option maxHeartbeats 8000000 in
theorem same_any (e f : Ev) (A D C A' D' C' : Option Addr) (ca cd cc ca' cd' cc' : Nat) (w : World) (ha : Ints w A e.addrs) (hd : Ints w D e.datas) (hc : Ints w C e.ctrls) (ha' : Ints w A' f.addrs) (hd' : Ints w D' f.datas) (hc' : Ints w C' f.ctrls) :
    Calls Try.prog 39 #[.agg #[.int .i64 e.hart, .int .i64 e.kind, .int .u32 e.addr, .int .u32 e.value, .int .u32 e.readv, .bool e.aq, .bool e.rl, .int .i64 e.pred, .int .i64 e.succ, .bool e.resv, .slice A e.addrs.length ca, .slice D e.datas.length cd, .slice C e.ctrls.length cc],
      .agg #[.int .i64 f.hart, .int .i64 f.kind, .int .u32 f.addr, .int .u32 f.value, .int .u32 f.readv, .bool f.aq, .bool f.rl, .int .i64 f.pred, .int .i64 f.succ, .bool f.resv, .slice A' f.addrs.length ca', .slice D' f.datas.length cd', .slice C' f.ctrls.length cc']] w fun r w' =>
      r = .returned (.bool (decide (e = f))) ∧ Below w.heap.size w w' := by
  go_enter Try.func39, Try.ntmps39
  go_upto_region 1 with (fail)
  obtain ⟨W0, s0, hW0, hbx, hsz, b0, b1, b2, b3, b4, b5, b6, b7, b8, b9, b10, b11, b12⟩ := box13 w 44 (.int .i64 e.hart) (.int .i64 e.kind) (.int .u32 e.addr) (.int .u32 e.value) (.int .u32 e.readv) (.bool e.aq) (.bool e.rl) (.int .i64 e.pred) (.int .i64 e.succ) (.bool e.resv) (.slice A e.addrs.length ca) (.slice D e.datas.length cd) (.slice C e.ctrls.length cc)
  rw [hW0]
  obtain ⟨W1, s1, hW1, hbx1, hsz1, c0, c1, c2, c3, c4, c5, c6, c7, c8, c9, c10, c11, c12⟩ := box13 s0.val 44 (.int .i64 f.hart) (.int .i64 f.kind) (.int .u32 f.addr) (.int .u32 f.value) (.int .u32 f.readv) (.bool f.aq) (.bool f.rl) (.int .i64 f.pred) (.int .i64 f.succ) (.bool f.resv) (.slice A' f.addrs.length ca') (.slice D' f.datas.length cd') (.slice C' f.ctrls.length cc')
  rw [hW1]
  have hs0 : s0.val.heap.size = w.heap.size + 1 := by rw [← hW0]; simp
  rw [hs0] at c0 c1 c2 c3 c4 c5 c6 c7 c8 c9 c10 c11 c12
  clear hW0 hW1
  have b0' : ∀ s : Fut W1, s.val.cell? ⟨w.heap.size, 0, none⟩ = some (.int .i64 e.hart) := fun s => b0 (s0.up hbx1 s)
  have b1' : ∀ s : Fut W1, s.val.cell? ⟨w.heap.size, 1, none⟩ = some (.int .i64 e.kind) := fun s => b1 (s0.up hbx1 s)
  have b2' : ∀ s : Fut W1, s.val.cell? ⟨w.heap.size, 2, none⟩ = some (.int .u32 e.addr) := fun s => b2 (s0.up hbx1 s)
  have b3' : ∀ s : Fut W1, s.val.cell? ⟨w.heap.size, 3, none⟩ = some (.int .u32 e.value) := fun s => b3 (s0.up hbx1 s)
  have b4' : ∀ s : Fut W1, s.val.cell? ⟨w.heap.size, 4, none⟩ = some (.int .u32 e.readv) := fun s => b4 (s0.up hbx1 s)
  have b5' : ∀ s : Fut W1, s.val.cell? ⟨w.heap.size, 5, none⟩ = some (.bool e.aq) := fun s => b5 (s0.up hbx1 s)
  have b6' : ∀ s : Fut W1, s.val.cell? ⟨w.heap.size, 6, none⟩ = some (.bool e.rl) := fun s => b6 (s0.up hbx1 s)
  have b7' : ∀ s : Fut W1, s.val.cell? ⟨w.heap.size, 7, none⟩ = some (.int .i64 e.pred) := fun s => b7 (s0.up hbx1 s)
  have b8' : ∀ s : Fut W1, s.val.cell? ⟨w.heap.size, 8, none⟩ = some (.int .i64 e.succ) := fun s => b8 (s0.up hbx1 s)
  have b9' : ∀ s : Fut W1, s.val.cell? ⟨w.heap.size, 9, none⟩ = some (.bool e.resv) := fun s => b9 (s0.up hbx1 s)
  have b10' : ∀ s : Fut W1, s.val.cell? ⟨w.heap.size, 10, none⟩ = some (.slice A e.addrs.length ca) := fun s => b10 (s0.up hbx1 s)
  have b11' : ∀ s : Fut W1, s.val.cell? ⟨w.heap.size, 11, none⟩ = some (.slice D e.datas.length cd) := fun s => b11 (s0.up hbx1 s)
  have b12' : ∀ s : Fut W1, s.val.cell? ⟨w.heap.size, 12, none⟩ = some (.slice C e.ctrls.length cc) := fun s => b12 (s0.up hbx1 s)
  have hB1 : Below w.heap.size w W1 := hbx.trans ((s0.below.mono (Nat.le_of_lt hsz)).trans (hbx1.mono (Nat.le_trans hbx.size s0.below.size)))
  have ha1 : ∀ s : Fut W1, Ints s.val A e.addrs := fun s => (ha.below hB1).fut s
  have hd1 : ∀ s : Fut W1, Ints s.val D e.datas := fun s => (hd.below hB1).fut s
  have hc1 : ∀ s : Fut W1, Ints s.val C e.ctrls := fun s => (hc.below hB1).fut s
  have ha2 : ∀ s : Fut W1, Ints s.val A' f.addrs := fun s => (ha'.below hB1).fut s
  have hd2 : ∀ s : Fut W1, Ints s.val D' f.datas := fun s => (hd'.below hB1).fut s
  have hc2 : ∀ s : Fut W1, Ints s.val C' f.ctrls := fun s => (hc'.below hB1).fut s
  have hend : ∀ s : Fut W1, Below w.heap.size w s.val := fun s => hB1.trans (s.below.mono hB1.size)
  have HEND := Lib.hid hend
  clear b0 b1 b2 b3 b4 b5 b6 b7 b8 b9 b10 b11 b12 ha hd hc ha' hd' hc' hend hbx hbx1 hB1 hsz hsz1
  simp only [List.append_eq, List.cons_append, List.nil_append]
  refine wp_region_futps s1 ?_
  repeat (first
    | (refine wpQuiet_or rfl rfl rfl rfl ?_; simp only [Act.put, List.setIfInBounds_toArray, List.set_cons_succ, List.set_cons_zero])
    | (refine wpQuiet_and rfl rfl rfl rfl ?_; simp only [Act.put, List.setIfInBounds_toArray, List.set_cons_succ, List.set_cons_zero])
    | go_big_quiet_skip
    | (go_big_quiet_want; go_big_quiet_op; first | go_big_quiet_on | go_big_quiet_call (((go_at_call 40; first | (with_reducible exact (fut_callS _ (equalI_any _ _ _ _ _ _ _ (ha1 _) (ha2 _)))) | (with_reducible exact (fut_callS _ (equalI_any _ _ _ _ _ _ _ (hd1 _) (hd2 _)))) | (with_reducible exact (fut_callS _ (equalI_any _ _ _ _ _ _ _ (hc1 _) (hc2 _))))))))
    | (refine wpQuiet_dead (by first | exact wanted_t rfl rfl rfl | exact wanted_f rfl rfl rfl | exact wanted_ts rfl rfl rfl | exact wanted_fs rfl rfl rfl) rfl (of_decide_eq_true rfl) (by simp only [Bool.not_true, Bool.and_false, Bool.false_and, Bool.or_true, Bool.true_or]) ?_; simp only [Act.put, List.setIfInBounds_toArray, List.set_cons_succ, List.set_cons_zero])
    | (refine wpQuiet_or_und rfl (by first | exact wanted_t rfl rfl rfl | exact wanted_f rfl rfl rfl | exact wanted_ts rfl rfl rfl | exact wanted_fs rfl rfl rfl) rfl (of_decide_eq_true rfl) rfl rfl ?_; simp only [Act.put, List.setIfInBounds_toArray, List.set_cons_succ, List.set_cons_zero])
    | (refine wpQuiet_and_und rfl (by first | exact wanted_t rfl rfl rfl | exact wanted_f rfl rfl rfl | exact wanted_ts rfl rfl rfl | exact wanted_fs rfl rfl rfl) rfl (of_decide_eq_true rfl) rfl rfl ?_; simp only [Act.put, List.setIfInBounds_toArray, List.set_cons_succ, List.set_cons_zero])
    | (refine wpQuiet_und (by first | exact wanted_t rfl rfl rfl | exact wanted_f rfl rfl rfl | exact wanted_ts rfl rfl rfl | exact wanted_fs rfl rfl rfl) rfl (of_decide_eq_true rfl) ?_
       apply Exists.intro
       refine ⟨fun hb => ?_, ?_⟩
       · (skip)
         (try simp only [sel_of hb])
         (try (have hb1 := and_l hb; (try simp only [sel_of hb1]); (try (have hb2 := and_l hb1; (try simp only [sel_of hb2]); (try (have hb3 := and_l hb2; (try simp only [sel_of hb3])))))))
         go_big_quiet_op
         first | ((show Act.eval _ (Operand.tmp _) = _); conv => (lhs; whnf)) | (apply Exists.intro; refine ⟨fun _ => ?_, ?_⟩; (focus ((go_at_call 40; first | (with_reducible exact (fut_callS _ (equalI_any _ _ _ _ _ _ _ (ha1 _) (ha2 _)))) | (with_reducible exact (fut_callS _ (equalI_any _ _ _ _ _ _ _ (hd1 _) (hd2 _)))) | (with_reducible exact (fut_callS _ (equalI_any _ _ _ _ _ _ _ (hc1 _) (hc2 _))))))); ((show Act.eval _ (Operand.tmp _) = _); conv => (lhs; whnf)))
       simp only [Act.put, List.setIfInBounds_toArray, List.set_cons_succ, List.set_cons_zero]))
  refine wpQuiet_nil ?_
  intro s2
  go_wp2
  go_ret
  refine ⟨ret_bool ?_, HEND.out s2⟩
  clear HEND ha1 ha2 hd1 hd2 hc1 hc2 b0' b1' b2' b3' b4' b5' b6' b7' b8' b9' b10' b11' b12' c0 c1 c2 c3 c4 c5 c6 c7 c8 c9 c10 c11 c12
  rw [Bool.eq_iff_iff]
  simp only [decide_eq_true_eq, Bool.and_eq_true, beq_iff_eq, and_assoc]
  exact ev_eq_iff e f
end Go.Proofs.Ytacnbdnmkmpldaa
