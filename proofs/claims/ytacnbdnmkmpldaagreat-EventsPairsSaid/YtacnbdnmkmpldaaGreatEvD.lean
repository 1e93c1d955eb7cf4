/- events.event: may an event be where it stands? -/
import Derived.Test.YtacnbdnmkmpldaaGreatEvC
namespace Go.Proofs.YtacnbdnmkmpldaaGreat
open Go.RowKit Q
set_option linter.unusedSimpArgs false
set_option linter.unusedVariables false
theorem eventB_eq {x : Ex} {n k : Nat} {l : List Int} {e : Ev} (he : e = x.evs[n]?.getD zev) : eventB x n k l = (bareB e && (e.addr % 4 == 0 && (hangsB x n e.addrs && (hangsB x n e.datas && (hangsB x n e.ctrls &&
    (if n < k then e.kind == 5 && e.addr == l.getD n 0
     else e.kind != 5 && (decide (0 ≤ e.hart) && (decide (e.hart < 4) && (n == k || decide ((ev x (n - 1)).hart ≤ e.hart)))))))))) := by
  subst he; rfl
theorem event1 {x : Ex} {n k : Nat} {l : List Int} {e : Ev} (he : e = x.evs[n]?.getD zev) (h : (!bareB e || e.addr % 4 != 0 || !hangsB x n e.addrs || !hangsB x n e.datas || !hangsB x n e.ctrls) = true) : eventB x n k l = false := by
  rw [eventB_eq he]
  cases h1 : bareB e <;> cases h2 : hangsB x n e.addrs <;> cases h3 : hangsB x n e.datas <;> cases h4 : hangsB x n e.ctrls <;> simp_all
theorem event0 {x : Ex} {n k : Nat} {l : List Int} {e : Ev} (he : e = x.evs[n]?.getD zev) (h : (!bareB e || e.addr % 4 != 0 || !hangsB x n e.addrs || !hangsB x n e.datas || !hangsB x n e.ctrls) = false) :
    eventB x n k l = (if n < k then e.kind == 5 && e.addr == l.getD n 0 else e.kind != 5 && (decide (0 ≤ e.hart) && (decide (e.hart < 4) && (n == k || decide ((ev x (n - 1)).hart ≤ e.hart))))) := by
  rw [eventB_eq he]
  cases h1 : bareB e <;> cases h2 : hangsB x n e.addrs <;> cases h3 : hangsB x n e.datas <;> cases h4 : hangsB x n e.ctrls <;> simp_all
theorem event2 {x : Ex} {n k : Nat} {l : List Int} {e : Ev} {v : Int} (he : e = x.evs[n]?.getD zev) (hv : v = l[n]?.getD 0) (h : (!bareB e || e.addr % 4 != 0 || !hangsB x n e.addrs || !hangsB x n e.datas || !hangsB x n e.ctrls) = false) (hn : n < k) :
    eventB x n k l = (e.kind == 5 && e.addr == v) := by
  rw [event0 he h, if_pos hn, hv, List.getD_eq_getElem?_getD]
theorem event3 {x : Ex} {n k : Nat} {l : List Int} {e : Ev} (he : e = x.evs[n]?.getD zev) (h : (!bareB e || e.addr % 4 != 0 || !hangsB x n e.addrs || !hangsB x n e.datas || !hangsB x n e.ctrls) = false) (hn : n = k) :
    eventB x n k l = (e.kind != 5 && decide (0 ≤ e.hart) && decide (e.hart < 4) && (true || false)) := by
  rw [event0 he h, if_neg (by omega)]; simp [hn, Bool.and_assoc]
theorem event4 {x : Ex} {n k : Nat} {l : List Int} {e p : Ev} (he : e = x.evs[n]?.getD zev) (hp : p = x.evs[n - 1]?.getD zev) (h : (!bareB e || e.addr % 4 != 0 || !hangsB x n e.addrs || !hangsB x n e.datas || !hangsB x n e.ctrls) = false) (hn : k < n) :
    eventB x n k l = (e.kind != 5 && decide (0 ≤ e.hart) && decide (e.hart < 4) && (false || decide (p.hart ≤ e.hart))) := by
  have hne : (n == k) = false := by simp; omega
  rw [event0 he h, if_neg (by omega), hne]; simp [hp, ev, Bool.and_assoc]

set_option maxRecDepth 100000 in
set_option maxHeartbeats 4000000 in
theorem event_any (x : Ex) (Ae Aa : Option Addr) (ce ca : Nat) (Vf Vo : Value) (n k : Nat) (l : List Int) (w : World) (he : Evs w Ae x.evs) (hl : U32s w Aa l) (hn : n < x.evs.length) (hk : k ≤ x.evs.length) (hkl : k = l.length) (hok : ExOk x) :
    Calls Tryz.prog 89 #[.agg #[.slice Ae x.evs.length ce, Vf, Vo], .int .i64 n, .int .i64 k, .slice Aa l.length ca] w fun r w' =>
      r = .returned (.bool (eventB x n k l)) ∧ Below w.heap.size w w' := by
  have hl0 := hl.1
  have hx0 := he.1
  obtain ⟨be, oe, rfl, _⟩ := he.2 (by omega)
  obtain ⟨e, hen⟩ : ∃ e, e = x.evs[n]?.getD zev := ⟨_, rfl⟩
  have hok1 := hok.ev n hn
  rw [← hen] at hok1
  have a0 : 0 ≤ e.addr := hok1.addr.1
  have HEN := Lib.hid hen
  have HKL := Lib.hid hkl
  clear hen hkl
  go_enter Tryz.func89, Tryz.ntmps89
  go_upto_region 1 with (fail)
  obtain ⟨W0, s0, hW0, hbx, hsz, b0, b1, b2⟩ := box3 w 26 (.slice (some ⟨be, oe, none⟩) x.evs.length ce) Vf Vo
  rw [hW0]
  clear hW0
  have he0 := he.below hbx
  have hl1 := hl.below hbx
  clear he hl
  have hE := he0.at n hn
  rw [← HEN.out] at hE
  obtain ⟨Aa', ca', Ad, cd, Ac, cc, f0, f1, f2, f3, f4, f5, f6, f7, f8, f9, f10, f11, f12, ia, id_, ic⟩ := hE.facts
  clear hE
  go_upto_region 2 with (fail)
  obtain ⟨W1, s1, hW1, hbx1, hsz1, c0, c1, c2, c3, c4, c5, c6, c7, c8, c9, c10, c11, c12⟩ := box13 s0.val 42 (.int .i64 e.hart) (.int .i64 e.kind) (.int .u32 e.addr) (.int .u32 e.value) (.int .u32 e.readv) (.bool e.aq) (.bool e.rl) (.int .i64 e.pred) (.int .i64 e.succ) (.bool e.resv) (.slice Aa' e.addrs.length ca') (.slice Ad e.datas.length cd) (.slice Ac e.ctrls.length cc)
  rw [hW1]
  clear hW1 f0 f1 f2 f3 f4 f5 f6 f7 f8 f9 f10 f11 f12
  have b0' : ∀ s : Fut W1, s.val.cell? ⟨w.heap.size, 0, none⟩ = some (.slice (some ⟨be, oe, none⟩) x.evs.length ce) := fun s => b0 (s0.up hbx1 s)
  have b1' : ∀ s : Fut W1, s.val.cell? ⟨w.heap.size, 1, none⟩ = some Vf := fun s => b1 (s0.up hbx1 s)
  have b2' : ∀ s : Fut W1, s.val.cell? ⟨w.heap.size, 2, none⟩ = some Vo := fun s => b2 (s0.up hbx1 s)
  have hev : ∀ s : Fut W1, Evs s.val (some ⟨be, oe, none⟩) x.evs := fun s => he0.fut (s0.up hbx1 s)
  have hll : ∀ s : Fut W1, U32s s.val Aa l := fun s => hl1.fut (s0.up hbx1 s)
  have ia1 : ∀ s : Fut W1, Ints s.val Aa' e.addrs := fun s => ia.fut (s0.up hbx1 s)
  have id1 : ∀ s : Fut W1, Ints s.val Ad e.datas := fun s => id_.fut (s0.up hbx1 s)
  have ic1 : ∀ s : Fut W1, Ints s.val Ac e.ctrls := fun s => ic.fut (s0.up hbx1 s)
  have la0 := ia.1
  have ld0 := id_.1
  have lc0 := ic.1
  have hend : ∀ s : Fut W1, Below w.heap.size w s.val := fun s => hbx.trans ((s0.below.trans ((hbx1.trans (s.below.mono hbx1.size)).mono s0.below.size)).mono hbx.size)
  have HEND := Lib.hid hend
  clear b0 b1 b2 hend
  refine wp_region_futps s1 ?_
  repeat (first
    | (refine wpQuiet_or rfl rfl rfl rfl ?_; simp only [Act.put, List.setIfInBounds_toArray, List.set_cons_succ, List.set_cons_zero])
    | (refine wpQuiet_and rfl rfl rfl rfl ?_; simp only [Act.put, List.setIfInBounds_toArray, List.set_cons_succ, List.set_cons_zero])
    | go_big_quiet_skip
    | (go_big_quiet_want; go_big_quiet_op; first | go_big_quiet_on | go_big_quiet_call ((first | (go_at_call 136; exact fut_callS _ (bare_any e _ _ _ _ _ _ _ la0 ld0 lc0)) | (go_at_call 137; first | (with_reducible exact (fut_callS _ (hangs_any x _ ce Vf Vo Aa' ca' e.addrs n _ (hev _) (ia1 _) hn))) | (with_reducible exact (fut_callS _ (hangs_any x _ ce Vf Vo Ad cd e.datas n _ (hev _) (id1 _) hn))) | (with_reducible exact (fut_callS _ (hangs_any x _ ce Vf Vo Ac cc e.ctrls n _ (hev _) (ic1 _) hn)))))))
    | (refine wpQuiet_dead (by first | exact wanted_t rfl rfl rfl | exact wanted_f rfl rfl rfl | exact wanted_ts rfl rfl rfl | exact wanted_fs rfl rfl rfl) rfl (of_decide_eq_true rfl) (by simp only [Bool.not_true, Bool.and_false, Bool.false_and, Bool.or_true, Bool.true_or]) ?_; simp only [Act.put, List.setIfInBounds_toArray, List.set_cons_succ, List.set_cons_zero])
    | (refine wpQuiet_or_und rfl (by first | exact wanted_t rfl rfl rfl | exact wanted_f rfl rfl rfl | exact wanted_ts rfl rfl rfl | exact wanted_fs rfl rfl rfl) rfl (of_decide_eq_true rfl) rfl rfl ?_; simp only [Act.put, List.setIfInBounds_toArray, List.set_cons_succ, List.set_cons_zero])
    | (refine wpQuiet_and_und rfl (by first | exact wanted_t rfl rfl rfl | exact wanted_f rfl rfl rfl | exact wanted_ts rfl rfl rfl | exact wanted_fs rfl rfl rfl) rfl (of_decide_eq_true rfl) rfl rfl ?_; simp only [Act.put, List.setIfInBounds_toArray, List.set_cons_succ, List.set_cons_zero])
    | (refine wpQuiet_und (by first | exact wanted_t rfl rfl rfl | exact wanted_f rfl rfl rfl | exact wanted_ts rfl rfl rfl | exact wanted_fs rfl rfl rfl) rfl (of_decide_eq_true rfl) ?_
       apply Exists.intro
       refine ⟨fun hb => ?_, ?_⟩
       · (skip)
         (try simp only [sel_of hb])
         (try (have hb1 := and_l hb; (try simp only [sel_of hb1]); (try (have hb2 := and_l hb1; (try simp only [sel_of hb2]); (try (have hb3 := and_l hb2; (try simp only [sel_of hb3])))))))
         go_big_quiet_op
         first | ((show Act.eval _ (Operand.tmp _) = _); conv => (lhs; whnf)) | (apply Exists.intro; refine ⟨fun _ => ?_, ?_⟩; (focus (first | (go_at_call 136; exact fut_callS _ (bare_any e _ _ _ _ _ _ _ la0 ld0 lc0)) | (go_at_call 137; first | (with_reducible exact (fut_callS _ (hangs_any x _ ce Vf Vo Aa' ca' e.addrs n _ (hev _) (ia1 _) hn))) | (with_reducible exact (fut_callS _ (hangs_any x _ ce Vf Vo Ad cd e.datas n _ (hev _) (id1 _) hn))) | (with_reducible exact (fut_callS _ (hangs_any x _ ce Vf Vo Ac cc e.ctrls n _ (hev _) (ic1 _) hn)))))); ((show Act.eval _ (Operand.tmp _) = _); conv => (lhs; whnf)))
       simp only [Act.put, List.setIfInBounds_toArray, List.set_cons_succ, List.set_cons_zero]))
  refine wpQuiet_nil ?_
  intro s2
  generalize h1 : (!bareB e || e.addr % 4 != 0 || !hangsB x n e.addrs || !hangsB x n e.datas || !hangsB x n e.ctrls) = b47
  have H1 := Lib.hid h1
  clear h1
  cases b47
  case true =>
    go_wp2
    go_ret
    exact ⟨ret_bool (event1 HEN.out H1.out), HEND.out s2⟩
  by_cases hnk : n < k
  · obtain ⟨ba, oa, hA, hcl⟩ := (hll s1).2 (by have := HKL.out; omega)
    subst hA
    have hcn : ∀ s : Fut W1, s.val.cell? ⟨ba, oa + n, none⟩ = some (.int .u32 (l[n]?.getD 0)) := fun s => by
      obtain ⟨b', o', e', hc'⟩ := (hll s).2 (by have := HKL.out; omega)
      injection e' with e'; injection e' with e1 e2; subst e1 e2
      exact hc' n (by have := HKL.out; omega)
    obtain ⟨v, hv⟩ : ∃ v, v = l[n]?.getD 0 := ⟨_, rfl⟩
    rw [← hv] at hcn
    have HV := Lib.hid hv
    have hnl : n < l.length := by have := HKL.out; omega
    clear hv hcl
    go_upto_region 5 with (fail)
    refine wp_region_futs s2 (by kernel_rfl) (lexOf lexEvent5 (by kernel_rfl)) ?_
    repeat (first
      | (refine wpQuiet_or rfl rfl rfl rfl ?_; simp only [Act.put, List.setIfInBounds_toArray, List.set_cons_succ, List.set_cons_zero])
      | (refine wpQuiet_and rfl rfl rfl rfl ?_; simp only [Act.put, List.setIfInBounds_toArray, List.set_cons_succ, List.set_cons_zero])
      | go_big_quiet_skip
      | (go_big_quiet_want; go_big_quiet_op; first | go_big_quiet_on | go_big_quiet_call ((fail)))
      | (refine wpQuiet_dead (by first | exact wanted_t rfl rfl rfl | exact wanted_f rfl rfl rfl | exact wanted_ts rfl rfl rfl | exact wanted_fs rfl rfl rfl) rfl (of_decide_eq_true rfl) (by simp only [Bool.not_true, Bool.and_false, Bool.false_and, Bool.or_true, Bool.true_or]) ?_; simp only [Act.put, List.setIfInBounds_toArray, List.set_cons_succ, List.set_cons_zero])
      | (refine wpQuiet_or_und rfl (by first | exact wanted_t rfl rfl rfl | exact wanted_f rfl rfl rfl | exact wanted_ts rfl rfl rfl | exact wanted_fs rfl rfl rfl) rfl (of_decide_eq_true rfl) rfl rfl ?_; simp only [Act.put, List.setIfInBounds_toArray, List.set_cons_succ, List.set_cons_zero])
      | (refine wpQuiet_and_und rfl (by first | exact wanted_t rfl rfl rfl | exact wanted_f rfl rfl rfl | exact wanted_ts rfl rfl rfl | exact wanted_fs rfl rfl rfl) rfl (of_decide_eq_true rfl) rfl rfl ?_; simp only [Act.put, List.setIfInBounds_toArray, List.set_cons_succ, List.set_cons_zero])
      | (refine wpQuiet_und (by first | exact wanted_t rfl rfl rfl | exact wanted_f rfl rfl rfl | exact wanted_ts rfl rfl rfl | exact wanted_fs rfl rfl rfl) rfl (of_decide_eq_true rfl) ?_
         apply Exists.intro
         refine ⟨fun hb => ?_, ?_⟩
         · (skip)
           (try simp only [sel_of hb])
           (try (have hb1 := and_l hb; (try simp only [sel_of hb1]); (try (have hb2 := and_l hb1; (try simp only [sel_of hb2]); (try (have hb3 := and_l hb2; (try simp only [sel_of hb3])))))))
           go_big_quiet_op
           first | ((show Act.eval _ (Operand.tmp _) = _); conv => (lhs; whnf)) | (apply Exists.intro; refine ⟨fun _ => ?_, ?_⟩; (focus (fail)); ((show Act.eval _ (Operand.tmp _) = _); conv => (lhs; whnf)))
         simp only [Act.put, List.setIfInBounds_toArray, List.set_cons_succ, List.set_cons_zero]))
    refine wpQuiet_nil ?_
    intro s3
    go_wp2
    go_ret
    exact ⟨ret_bool (event2 HEN.out HV.out H1.out hnk), HEND.out s3⟩
  · by_cases hnk2 : n = k
    · have q1 : ((n : Int) == k) = true := by simp [hnk2]
      have HNK := Lib.hid hnk2
      clear hnk2
      go_upto_region 6 with (fail)
      refine wp_region_futs s2 (by kernel_rfl) (lexOf lexEvent6 (by kernel_rfl)) ?_
      repeat (first
        | (refine wpQuiet_or rfl rfl rfl rfl ?_; simp only [Act.put, List.setIfInBounds_toArray, List.set_cons_succ, List.set_cons_zero])
        | (refine wpQuiet_and rfl rfl rfl rfl ?_; simp only [Act.put, List.setIfInBounds_toArray, List.set_cons_succ, List.set_cons_zero])
        | go_big_quiet_skip
        | (go_big_quiet_want; go_big_quiet_op; first | go_big_quiet_on | go_big_quiet_call ((fail)))
        | (refine wpQuiet_dead (by first | exact wanted_t rfl rfl rfl | exact wanted_f rfl rfl rfl | exact wanted_ts rfl rfl rfl | exact wanted_fs rfl rfl rfl) rfl (of_decide_eq_true rfl) (by simp only [Bool.not_true, Bool.and_false, Bool.false_and, Bool.or_true, Bool.true_or]) ?_; simp only [Act.put, List.setIfInBounds_toArray, List.set_cons_succ, List.set_cons_zero])
        | (refine wpQuiet_or_und rfl (by first | exact wanted_t rfl rfl rfl | exact wanted_f rfl rfl rfl | exact wanted_ts rfl rfl rfl | exact wanted_fs rfl rfl rfl) rfl (of_decide_eq_true rfl) rfl rfl ?_; simp only [Act.put, List.setIfInBounds_toArray, List.set_cons_succ, List.set_cons_zero])
        | (refine wpQuiet_and_und rfl (by first | exact wanted_t rfl rfl rfl | exact wanted_f rfl rfl rfl | exact wanted_ts rfl rfl rfl | exact wanted_fs rfl rfl rfl) rfl (of_decide_eq_true rfl) rfl rfl ?_; simp only [Act.put, List.setIfInBounds_toArray, List.set_cons_succ, List.set_cons_zero])
        | (refine wpQuiet_und (by first | exact wanted_t rfl rfl rfl | exact wanted_f rfl rfl rfl | exact wanted_ts rfl rfl rfl | exact wanted_fs rfl rfl rfl) rfl (of_decide_eq_true rfl) ?_
           apply Exists.intro
           refine ⟨fun hb => ?_, ?_⟩
           · (skip)
             (try simp only [sel_of hb])
             (try (have hb1 := and_l hb; (try simp only [sel_of hb1]); (try (have hb2 := and_l hb1; (try simp only [sel_of hb2]); (try (have hb3 := and_l hb2; (try simp only [sel_of hb3])))))))
             go_big_quiet_op
             first | ((show Act.eval _ (Operand.tmp _) = _); conv => (lhs; whnf)) | (apply Exists.intro; refine ⟨fun _ => ?_, ?_⟩; (focus (fail)); ((show Act.eval _ (Operand.tmp _) = _); conv => (lhs; whnf)))
           simp only [Act.put, List.setIfInBounds_toArray, List.set_cons_succ, List.set_cons_zero]))
      refine wpQuiet_nil ?_
      intro s3
      go_wp2
      go_ret
      exact ⟨ret_bool (event3 HEN.out H1.out HNK.out), HEND.out s3⟩
    · have q1 : ((n : Int) == k) = false := by simp; omega
      have hp1 : ∀ s : Fut W1, s.val.cell? ⟨be, oe + (n - 1) * 13, none⟩ = some (.int .i64 (x.evs[n - 1]?.getD zev).hart) := fun s => ((hev s).at (n - 1) (by omega)).c0
      obtain ⟨p, hp⟩ : ∃ p, p = x.evs[n - 1]?.getD zev := ⟨_, rfl⟩
      rw [← hp] at hp1
      have HP := Lib.hid hp
      have hn1 : 1 ≤ n := by omega
      clear hp
      go_upto_region 6 with (fail)
      refine wp_region_futs s2 (by kernel_rfl) (lexOf lexEvent6 (by kernel_rfl)) ?_
      repeat (first
        | (refine wpQuiet_or rfl rfl rfl rfl ?_; simp only [Act.put, List.setIfInBounds_toArray, List.set_cons_succ, List.set_cons_zero])
        | (refine wpQuiet_and rfl rfl rfl rfl ?_; simp only [Act.put, List.setIfInBounds_toArray, List.set_cons_succ, List.set_cons_zero])
        | go_big_quiet_skip
        | (go_big_quiet_want; go_big_quiet_op; first | go_big_quiet_on | go_big_quiet_call ((fail)))
        | (refine wpQuiet_dead (by first | exact wanted_t rfl rfl rfl | exact wanted_f rfl rfl rfl | exact wanted_ts rfl rfl rfl | exact wanted_fs rfl rfl rfl) rfl (of_decide_eq_true rfl) (by simp only [Bool.not_true, Bool.and_false, Bool.false_and, Bool.or_true, Bool.true_or]) ?_; simp only [Act.put, List.setIfInBounds_toArray, List.set_cons_succ, List.set_cons_zero])
        | (refine wpQuiet_or_und rfl (by first | exact wanted_t rfl rfl rfl | exact wanted_f rfl rfl rfl | exact wanted_ts rfl rfl rfl | exact wanted_fs rfl rfl rfl) rfl (of_decide_eq_true rfl) rfl rfl ?_; simp only [Act.put, List.setIfInBounds_toArray, List.set_cons_succ, List.set_cons_zero])
        | (refine wpQuiet_and_und rfl (by first | exact wanted_t rfl rfl rfl | exact wanted_f rfl rfl rfl | exact wanted_ts rfl rfl rfl | exact wanted_fs rfl rfl rfl) rfl (of_decide_eq_true rfl) rfl rfl ?_; simp only [Act.put, List.setIfInBounds_toArray, List.set_cons_succ, List.set_cons_zero])
        | (refine wpQuiet_und (by first | exact wanted_t rfl rfl rfl | exact wanted_f rfl rfl rfl | exact wanted_ts rfl rfl rfl | exact wanted_fs rfl rfl rfl) rfl (of_decide_eq_true rfl) ?_
           apply Exists.intro
           refine ⟨fun hb => ?_, ?_⟩
           · (skip)
             (try simp only [sel_of hb])
             (try (have hb1 := and_l hb; (try simp only [sel_of hb1]); (try (have hb2 := and_l hb1; (try simp only [sel_of hb2]); (try (have hb3 := and_l hb2; (try simp only [sel_of hb3])))))))
             go_big_quiet_op
             first | ((show Act.eval _ (Operand.tmp _) = _); conv => (lhs; whnf)) | (apply Exists.intro; refine ⟨fun _ => ?_, ?_⟩; (focus (fail)); ((show Act.eval _ (Operand.tmp _) = _); conv => (lhs; whnf)))
           simp only [Act.put, List.setIfInBounds_toArray, List.set_cons_succ, List.set_cons_zero]))
      refine wpQuiet_nil ?_
      intro s3
      go_wp2
      go_ret
      exact ⟨ret_bool (event4 HEN.out HP.out H1.out (by omega)), HEND.out s3⟩
end Go.Proofs.YtacnbdnmkmpldaaGreat
