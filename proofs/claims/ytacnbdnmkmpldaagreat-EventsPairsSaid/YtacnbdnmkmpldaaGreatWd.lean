/- The statements' wide: more than is done here. -/
import Derived.Test.YtacnbdnmkmpldaaGreatEvC
import Derived.KernelRfl
import Derived.IntWalk
namespace Go.Proofs.YtacnbdnmkmpldaaGreat
open Go Go.Proofs Go.RowKit Q
set_option linter.unusedSimpArgs false
set_option linter.unusedVariables false

theorem lexWide : Region.lexB .any (opsOf Tryz.f20 13) = true := by kernel_rfl

/-- What is so of an execution that is not wide. -/
def Narrow (x : Ex) : Prop := x.evs.length ≤ 70 ∧ x.src.length ≤ 200 ∧ x.order.length ≤ 200 ∧ (∀ j, j < x.order.length → (x.order[j]?.getD []).length ≤ 400) ∧
  ∀ j, j < x.evs.length → (x.evs[j]?.getD zev).addrs.length ≤ 400 ∧ (x.evs[j]?.getD zev).datas.length ≤ 400 ∧ (x.evs[j]?.getD zev).ctrls.length ≤ 400

set_option maxRecDepth 100000 in
set_option maxHeartbeats 4000000 in
theorem wide_any (x : Ex) (Ae Af Ao : Option Addr) (ce cf co : Nat) (w : World) (he : Evs w Ae x.evs) (hf : Ints w Af x.src) (ho : Q.Rows w Ao x.order) :
    Calls Tryz.prog 20 #[.agg #[.slice Ae x.evs.length ce, .slice Af x.src.length cf, .slice Ao x.order.length co]] w fun r w' =>
      ∃ b, r = .returned (.bool b) ∧ (b = false → Narrow x) ∧ Below w.heap.size w w' := by
  have hx0 := he.1
  have hf0 := hf.1
  have ho0 := ho.1
  go_enter Tryz.func20, Tryz.ntmps20
  go_upto_region 1 with (fail)
  obtain ⟨W0, s0, hW0, hbx, hsz, b0, b1, b2⟩ := box3 w 26 (.slice Ae x.evs.length ce) (.slice Af x.src.length cf) (.slice Ao x.order.length co)
  rw [hW0]
  clear hW0
  have he0 := he.below hbx
  have ho1 := ho.below hbx
  have hend : ∀ s : Fut W0, Below w.heap.size w s.val := fun s => hbx.trans (s.below.mono (Nat.le_of_lt hsz))
  have HEND := Lib.hid hend
  clear hend he hf ho
  have d0 := b0 s0
  have d1 := b1 s0
  have d2 := b2 s0
  by_cases h1 : 70 < x.evs.length
  · have q : decide ((70 : Int) < (x.evs.length : Int)) = true := decide_eq_true (by omega)
    go_wp2
    go_ret
    exact ⟨true, rfl, fun h => (by cases h), HEND.out s0⟩
  have q1 : decide ((70 : Int) < (x.evs.length : Int)) = false := decide_eq_false (by omega)
  by_cases h2 : 200 < x.src.length
  · have q : decide ((200 : Int) < (x.src.length : Int)) = true := decide_eq_true (by omega)
    go_wp2
    go_ret
    exact ⟨true, rfl, fun h => (by cases h), HEND.out s0⟩
  have q2 : decide ((200 : Int) < (x.src.length : Int)) = false := decide_eq_false (by omega)
  by_cases h3 : 200 < x.order.length
  · have q : decide ((200 : Int) < (x.order.length : Int)) = true := decide_eq_true (by omega)
    go_wp2
    go_ret
    exact ⟨true, rfl, fun h => (by cases h), HEND.out s0⟩
  have q3 : decide ((200 : Int) < (x.order.length : Int)) = false := decide_eq_false (by omega)
  go_wp2
  go_loopw [3, 4] (fun m i wr => ∃ k : Nat, k ≤ x.order.length ∧ i = .int .i64 k ∧ (∃ M : Nat, m = .int .i64 M ∧ M ≤ 400) ∧ (∀ j, j < k → (x.order[j]?.getD []).length ≤ 400) ∧ wr = s0.val) (fun _ i _ => x.order.length - (intOf i).toNat)
  case atStart => exact ⟨0, Nat.zero_le _, rfl, ⟨x.src.length, rfl, by omega⟩, fun j hj => by omega, rfl⟩
  case round =>
    obtain ⟨k, hk, rfl, ⟨M, rfl, hM⟩, hall, rfl⟩ := hrel
    have HALL := Lib.hid hall
    clear hall
    by_cases hlt : k < x.order.length
    · obtain ⟨b, off, rfl, hc⟩ := (ho1.fut s0).2 (by omega)
      obtain ⟨B, cB, hck, hI⟩ := hc k hlt
      obtain ⟨l, hl⟩ : ∃ l, x.order[k]?.getD [] = l := ⟨_, rfl⟩
      rw [hl] at hck hI
      have hl0 := hI.1
      have HL := Lib.hid hl
      clear hl hc hI
      by_cases h4 : 400 < M + l.length
      · have q : decide ((400 : Int) < (M : Int) + (l.length : Int)) = true := decide_eq_true (by omega)
        go_wp2
        go_ret
        exact ⟨true, rfl, fun h => (by cases h), HEND.out s0⟩
      · have q : decide ((400 : Int) < (M : Int) + (l.length : Int)) = false := decide_eq_false (by omega)
        go_wp2
        go_roundw
        case rel => exact ⟨k + 1, by omega, by go_num, ⟨M + l.length, by go_num, by omega⟩, fun j hj => by
          by_cases hjk : j = k
          · subst hjk; rw [HL.out]; omega
          · exact HALL.out j (by omega), trivial⟩
        case measure => simp [intOf]; omega
    · obtain rfl : k = x.order.length := by omega
      go_wp2
      go_loopw [3, 5] (fun m i wr => ∃ k : Nat, k ≤ x.evs.length ∧ i = .int .i64 k ∧ (∃ M : Nat, m = .int .i64 M ∧ M ≤ 400) ∧ (∀ j, j < k → (x.evs[j]?.getD zev).addrs.length ≤ 400 ∧ (x.evs[j]?.getD zev).datas.length ≤ 400 ∧ (x.evs[j]?.getD zev).ctrls.length ≤ 400) ∧ ∃ s : Fut W0, wr = s.val) (fun _ i _ => x.evs.length - (intOf i).toNat)
      case atStart => exact ⟨0, Nat.zero_le _, rfl, ⟨M, rfl, hM⟩, fun j hj => by omega, s0, rfl⟩
      case round =>
        obtain ⟨k, hk, rfl, ⟨M, rfl, hM⟩, hall, s, rfl⟩ := hrel
        have HALL2 := Lib.hid hall
        clear hall d0 d1 d2
        have d0 := b0 s
        by_cases hlt : k < x.evs.length
        · obtain ⟨be, oe, rfl, _⟩ := he0.2 (by omega)
          have hE := he0.at k hlt
          obtain ⟨e, hen⟩ : ∃ e, x.evs[k]?.getD zev = e := ⟨_, rfl⟩
          rw [hen] at hE
          obtain ⟨Aa', ca', Ad, cd, Ac, cc, f0, f1, f2, f3, f4, f5, f6, f7, f8, f9, f10, f11, f12, ia, id_, ic⟩ := hE.facts
          have la := ia.1
          have ld := id_.1
          have lc := ic.1
          have HEN := Lib.hid hen
          clear hen hE ia id_ ic f0 f1 f2 f3 f4 f5 f6 f7 f8 f9
          have w1 : IntKind.i64.wrap ((M : Int) + (e.addrs.length : Int)) = (M : Int) + (e.addrs.length : Int) := IntWalk.i64_in _ (by omega)
          have w2 : IntKind.i64.wrap ((M : Int) + (e.addrs.length : Int) + (e.datas.length : Int)) = (M : Int) + (e.addrs.length : Int) + (e.datas.length : Int) := IntWalk.i64_in _ (by omega)
          have w3 : IntKind.i64.wrap ((M : Int) + (e.addrs.length : Int) + (e.datas.length : Int) + (e.ctrls.length : Int)) = (M : Int) + (e.addrs.length : Int) + (e.datas.length : Int) + (e.ctrls.length : Int) := IntWalk.i64_in _ (by omega)
          go_upto_region 13 with (fail)
          refine wp_region_futs s (by kernel_rfl) (lexOf lexWide (by kernel_rfl)) ?_
          repeat (first
            | (refine wpQuiet_or rfl rfl rfl rfl ?_; simp only [Act.put, List.setIfInBounds_toArray, List.set_cons_succ, List.set_cons_zero])
            | (refine wpQuiet_and rfl rfl rfl rfl ?_; simp only [Act.put, List.setIfInBounds_toArray, List.set_cons_succ, List.set_cons_zero])
            | go_big_quiet_skip
            | (go_big_quiet_want; go_big_quiet_op; first | go_big_quiet_on | go_big_quiet_call ((fail)))
            | (refine wpQuiet_dead (by first | exact wanted_t rfl rfl rfl | exact wanted_f rfl rfl rfl | exact wanted_ts rfl rfl rfl | exact wanted_fs rfl rfl rfl) rfl (of_decide_eq_true rfl) (by simp only [Bool.not_true, Bool.and_false, Bool.false_and, Bool.or_true, Bool.true_or]) ?_; simp only [Act.put, List.setIfInBounds_toArray, List.set_cons_succ, List.set_cons_zero])
            | (refine wpQuiet_or_und rfl (by first | exact wanted_t rfl rfl rfl | exact wanted_f rfl rfl rfl | exact wanted_ts rfl rfl rfl | exact wanted_fs rfl rfl rfl) rfl (of_decide_eq_true rfl) rfl rfl ?_; simp only [Act.put, List.setIfInBounds_toArray, List.set_cons_succ, List.set_cons_zero])
            | (refine wpQuiet_and_und rfl (by first | exact wanted_t rfl rfl rfl | exact wanted_f rfl rfl rfl | exact wanted_ts rfl rfl rfl | exact wanted_fs rfl rfl rfl) rfl (of_decide_eq_true rfl) rfl rfl ?_; simp only [Act.put, List.setIfInBounds_toArray, List.set_cons_succ, List.set_cons_zero])
            | (refine wpQuiet_und (by first | exact wanted_t rfl rfl rfl | exact wanted_f rfl rfl rfl | exact wanted_ts rfl rfl rfl | exact wanted_fs rfl rfl rfl) rfl (of_decide_eq_true rfl) ?_
               apply Exists.intro
               refine ⟨fun hb => ?_, ?_⟩
               · (skip)
                 (try simp only [sel_of hb])
                 (try (have hb1 := and_l hb; (try simp only [sel_of hb1]); (try (have hb2 := and_l hb1; (try simp only [sel_of hb2]); (try (have hb3 := and_l hb2; (try simp only [sel_of hb3])))))))
                 go_big_quiet_op
                 first | ((show Act.eval _ (Operand.tmp _) = _); conv => (lhs; whnf)) | (apply Exists.intro; refine ⟨fun _ => ?_, ?_⟩; (focus (fail)); ((show Act.eval _ (Operand.tmp _) = _); conv => (lhs; whnf)))
               simp only [Act.put, List.setIfInBounds_toArray, List.set_cons_succ, List.set_cons_zero]))
          refine wpQuiet_nil ?_
          intro s2
          by_cases h4 : 400 < M + e.addrs.length + e.datas.length + e.ctrls.length
          · have q : decide ((400 : Int) < (M : Int) + (e.addrs.length : Int) + (e.datas.length : Int) + (e.ctrls.length : Int)) = true := decide_eq_true (by omega)
            go_wp2
            go_ret
            exact ⟨true, rfl, fun h => (by cases h), HEND.out s2⟩
          · have q : decide ((400 : Int) < (M : Int) + (e.addrs.length : Int) + (e.datas.length : Int) + (e.ctrls.length : Int)) = false := decide_eq_false (by omega)
            go_wp2
            go_roundw
            case rel => exact ⟨k + 1, by omega, by go_num, ⟨M + e.addrs.length + e.datas.length + e.ctrls.length, by go_num, by omega⟩, fun j hj => by
              by_cases hjk : j = k
              · subst hjk; rw [HEN.out]; omega
              · exact HALL2.out j (by omega), s2, rfl⟩
            case measure => simp [intOf]; omega
        · obtain rfl : k = x.evs.length := by omega
          go_wp2
          go_ret
          exact ⟨false, rfl, fun _ => ⟨by omega, by omega, by omega, HALL.out, HALL2.out⟩, HEND.out s⟩
end Go.Proofs.YtacnbdnmkmpldaaGreat
