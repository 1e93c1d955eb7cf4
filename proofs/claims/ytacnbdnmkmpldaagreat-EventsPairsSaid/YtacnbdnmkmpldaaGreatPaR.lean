/- The reference's relations of two events: IsPo, IsRf, Place, IsCo, IsFr. -/
import Derived.Test.YtacnbdnmkmpldaaGreatPaP
import Derived.Test.YtacnbdnmkmpldaaGreatRAt
import Derived.Test.YtacnbdnmkmpldaaGreatEvC
import Derived.KernelRfl
namespace Go.Proofs.YtacnbdnmkmpldaaGreat
open Go Go.Proofs Go.RowKit Q
set_option linter.unusedSimpArgs false
set_option linter.unusedVariables false

theorem lexIsPo : Region.lexB .any (opsOf Tryz.f67 1) = true := by kernel_rfl
theorem lexIsCo : Region.lexB .any (opsOf Tryz.f69 1) = true := by kernel_rfl
theorem lexIsFr : Region.lexB .any (opsOf Tryz.f70 1) = true := by kernel_rfl
theorem ev_get (x : Ex) (a : Nat) : ev x a = x.evs[a]?.getD zev := by simp [ev, List.getD_eq_getElem?_getD]

set_option maxRecDepth 100000 in
set_option maxHeartbeats 2000000 in
theorem risPo_any (x : Ex) (Ae : Option Addr) (ce : Nat) (Vf Vo : Value) (a b : Nat) (w : World) (he : Evs w Ae x.evs) (ha : a < x.evs.length) (hb : b < x.evs.length) :
    Calls Tryz.prog 67 #[.agg #[.slice Ae x.evs.length ce, Vf, Vo], .int .i64 a, .int .i64 b] w fun r w' => r = .returned (.bool (isPo x a b)) ∧ Below w.heap.size w w' := by
  have hx0 := he.1
  obtain ⟨be, oe, rfl, _⟩ := he.2 (by omega)
  go_enter Tryz.func67, Tryz.ntmps67
  go_upto_region 1 with (fail)
  obtain ⟨W0, s0, hW0, hbx, hsz, b0, b1, b2⟩ := box3 w 26 (.slice (some ⟨be, oe, none⟩) x.evs.length ce) Vf Vo
  rw [hW0]
  clear hW0
  have he0 := he.below hbx
  have hend : ∀ s : Fut W0, Below w.heap.size w s.val := fun s => hbx.trans (s.below.mono (Nat.le_of_lt hsz))
  have HEND := Lib.hid hend
  clear hend
  have hf := he0.at a ha
  obtain ⟨e, he⟩ : ∃ e, x.evs[a]?.getD zev = e := ⟨_, rfl⟩
  have HE := Lib.hid ((ev_get x a).trans he)
  rw [he] at hf
  obtain ⟨eP1, en1, eP2, en2, eP3, en3, f0, f1, f2, f3, f4, f5, f6, f7, f8, f9, f10, f11, f12, _, _, _⟩ := hf.facts
  clear hf he
  have hk := he0.at b hb
  obtain ⟨g, hg⟩ : ∃ e, x.evs[b]?.getD zev = e := ⟨_, rfl⟩
  have HG := Lib.hid ((ev_get x b).trans hg)
  rw [hg] at hk
  obtain ⟨gP1, gn1, gP2, gn2, gP3, gn3, k0, k1, k2, k3, k4, k5, k6, k7, k8, k9, k10, k11, k12, _, _, _⟩ := hk.facts
  clear hk hg
  clear he he0 b1 b2
  refine wp_region_futs s0 (by kernel_rfl) (lexOf lexIsPo (by kernel_rfl)) ?_
  repeat (first
    | (refine wpQuiet_or rfl rfl rfl rfl ?_; simp only [Act.put, List.setIfInBounds_toArray, List.set_cons_succ, List.set_cons_zero])
    | (refine wpQuiet_and rfl rfl rfl rfl ?_; simp only [Act.put, List.setIfInBounds_toArray, List.set_cons_succ, List.set_cons_zero])
    | go_big_quiet_skip
    | (go_big_quiet_want; go_big_quiet_op; first | go_big_quiet_on | go_big_quiet_call ((fail)))
    | (refine wpQuiet_dead (by first | exact wanted_t rfl rfl rfl | exact wanted_f rfl rfl rfl | exact wanted_ts rfl rfl rfl | exact wanted_fs rfl rfl rfl) rfl (of_decide_eq_true rfl) (by simp only [Bool.not_true, Bool.and_false, Bool.false_and, Bool.or_true, Bool.true_or]) ?_; simp only [Act.put, List.setIfInBounds_toArray, List.set_cons_succ, List.set_cons_zero])
    | (refine wpQuiet_or_und rfl (by first | exact wanted_t rfl rfl rfl | exact wanted_f rfl rfl rfl | exact wanted_ts rfl rfl rfl | exact wanted_fs rfl rfl rfl) rfl (of_decide_eq_true rfl) rfl rfl ?_; simp only [Act.put, List.setIfInBounds_toArray, List.set_cons_succ, List.set_cons_zero])
    | (refine wpQuiet_and_und rfl (by first | exact wanted_t rfl rfl rfl | exact wanted_f rfl rfl rfl | exact wanted_ts rfl rfl rfl | exact wanted_fs rfl rfl rfl) rfl (of_decide_eq_true rfl) rfl rfl ?_; simp only [Act.put, List.setIfInBounds_toArray, List.set_cons_succ, List.set_cons_zero])
    | (refine wpQuiet_und (by first | exact wanted_t rfl rfl rfl | exact wanted_f rfl rfl rfl | exact wanted_ts rfl rfl rfl | exact wanted_fs rfl rfl rfl) rfl (of_decide_eq_true rfl) ?_
       apply Exists.intro
       refine ⟨fun hb => ?_, ?_⟩
       · (skip)
         (try simp only [sel_of hb])
         (try (have hb1 := and_l hb; (try simp only [sel_of hb1]); (try (have hb2 := and_l hb1; (try simp only [sel_of hb2]); (try (have hb3 := and_l hb2; (try simp only [sel_of hb3])))))))
         go_big_quiet_op
         first | ((show Act.eval _ (Operand.tmp _) = _); conv => (lhs; whnf)) | (apply Exists.intro; refine ⟨fun _ => ?_, ?_⟩; (focus (fail)); ((show Act.eval _ (Operand.tmp _) = _); conv => (lhs; whnf)))
       simp only [Act.put, List.setIfInBounds_toArray, List.set_cons_succ, List.set_cons_zero]))
  refine wpQuiet_nil ?_
  intro s1
  go_wp2
  go_ret
  exact ⟨ret_bool (by unfold isPo; rw [HE.out, HG.out, Bool.and_assoc]), HEND.out s1⟩

set_option maxRecDepth 100000 in
set_option maxHeartbeats 2000000 in
theorem risRf_any (x : Ex) (Ae Af : Option Addr) (ce cf : Nat) (Vo : Value) (a b : Nat) (w : World) (he : Evs w Ae x.evs) (hf : Ints w Af x.src) (hb : b < x.evs.length) (hbs : b < x.src.length) :
    Calls Tryz.prog 68 #[.agg #[.slice Ae x.evs.length ce, .slice Af x.src.length cf, Vo], .int .i64 a, .int .i64 b] w fun r w' => r = .returned (.bool (isRf x a b)) ∧ Below w.heap.size w w' := by
  have hx0 := he.1
  obtain ⟨be, oe, rfl, _⟩ := he.2 (by omega)
  obtain ⟨bf, of, rfl, hcf⟩ := hf.2 (by omega)
  have hcb := hcf b hbs
  obtain ⟨f, hfv⟩ : ∃ f, x.src[b]?.getD 0 = f := ⟨_, rfl⟩
  have hsrc := List.getD_eq_getElem?_getD (l := x.src) (i := b) (a := 0)
  rw [hfv] at hcb hsrc
  have HSRC := Lib.hid hsrc
  have hf0 := hf.1
  clear hsrc hfv hcf
  go_enter Tryz.func68, Tryz.ntmps68
  go_upto_region 1 with (fail)
  obtain ⟨W0, s0, hW0, hbx, hsz, b0, b1, b2⟩ := box3 w 26 (.slice (some ⟨be, oe, none⟩) x.evs.length ce) (.slice (some ⟨bf, of, none⟩) x.src.length cf) Vo
  rw [hW0]
  clear hW0
  have he0 := he.below hbx
  have hend : ∀ s : Fut W0, Below w.heap.size w s.val := fun s => hbx.trans (s.below.mono (Nat.le_of_lt hsz))
  have HEND := Lib.hid hend
  clear hend
  have hk := he0.at b hb
  obtain ⟨g, hg⟩ : ∃ e, x.evs[b]?.getD zev = e := ⟨_, rfl⟩
  have HG := Lib.hid ((ev_get x b).trans hg)
  rw [hg] at hk
  obtain ⟨gP1, gn1, gP2, gn2, gP3, gn3, k0, k1, k2, k3, k4, k5, k6, k7, k8, k9, k10, k11, k12, _, _, _⟩ := hk.facts
  clear hk hg
  have hcb2 : ∀ s : Fut W0, s.val.cell? ⟨bf, of + b, none⟩ = some (.int .i64 f) := fun s => (⟨s.val, HEND.out s⟩ : Fut w).cell hcb
  clear he he0 hf hcb b2
  refine wp_region_futps s0 ?_
  repeat (first
    | (refine wpQuiet_or rfl rfl rfl rfl ?_; simp only [Act.put, List.setIfInBounds_toArray, List.set_cons_succ, List.set_cons_zero])
    | (refine wpQuiet_and rfl rfl rfl rfl ?_; simp only [Act.put, List.setIfInBounds_toArray, List.set_cons_succ, List.set_cons_zero])
    | go_big_quiet_skip
    | (go_big_quiet_want; go_big_quiet_op; first | go_big_quiet_on | go_big_quiet_call (((go_at_call 64; exact fut_callS _ (rloads_any _ _ _ _ _ _ _ _ _ _ _ _ _ _)))))
    | (refine wpQuiet_dead (by first | exact wanted_t rfl rfl rfl | exact wanted_f rfl rfl rfl | exact wanted_ts rfl rfl rfl | exact wanted_fs rfl rfl rfl) rfl (of_decide_eq_true rfl) (by simp only [Bool.not_true, Bool.and_false, Bool.false_and, Bool.or_true, Bool.true_or]) ?_; simp only [Act.put, List.setIfInBounds_toArray, List.set_cons_succ, List.set_cons_zero])
    | (refine wpQuiet_or_und rfl (by first | exact wanted_t rfl rfl rfl | exact wanted_f rfl rfl rfl | exact wanted_ts rfl rfl rfl | exact wanted_fs rfl rfl rfl) rfl (of_decide_eq_true rfl) rfl rfl ?_; simp only [Act.put, List.setIfInBounds_toArray, List.set_cons_succ, List.set_cons_zero])
    | (refine wpQuiet_and_und rfl (by first | exact wanted_t rfl rfl rfl | exact wanted_f rfl rfl rfl | exact wanted_ts rfl rfl rfl | exact wanted_fs rfl rfl rfl) rfl (of_decide_eq_true rfl) rfl rfl ?_; simp only [Act.put, List.setIfInBounds_toArray, List.set_cons_succ, List.set_cons_zero])
    | (refine wpQuiet_und (by first | exact wanted_t rfl rfl rfl | exact wanted_f rfl rfl rfl | exact wanted_ts rfl rfl rfl | exact wanted_fs rfl rfl rfl) rfl (of_decide_eq_true rfl) ?_
       apply Exists.intro
       refine ⟨fun hb => ?_, ?_⟩
       · (skip)
         (try simp only [sel_of hb])
         (try (have hb1 := and_l hb; (try simp only [sel_of hb1]); (try (have hb2 := and_l hb1; (try simp only [sel_of hb2]); (try (have hb3 := and_l hb2; (try simp only [sel_of hb3])))))))
         go_big_quiet_op
         first | ((show Act.eval _ (Operand.tmp _) = _); conv => (lhs; whnf)) | (apply Exists.intro; refine ⟨fun _ => ?_, ?_⟩; (focus ((go_at_call 64; exact fut_callS _ (rloads_any _ _ _ _ _ _ _ _ _ _ _ _ _ _)))); ((show Act.eval _ (Operand.tmp _) = _); conv => (lhs; whnf)))
       simp only [Act.put, List.setIfInBounds_toArray, List.set_cons_succ, List.set_cons_zero]))
  refine wpQuiet_nil ?_
  intro s1
  go_wp2
  go_ret
  exact ⟨ret_bool (by unfold isRf; rw [HG.out, HSRC.out]; rfl), HEND.out s1⟩

theorem placeL_miss : ∀ {L : List (List Int)} {n : Int}, (∀ l ∈ L, n ∉ l) → placeL L n = -1
  | [], _, _ => rfl
  | l :: L, n, h => by
    show (if n ∈ l then _ else _) = _
    rw [if_neg (h l (by simp))]
    exact placeL_miss (fun m hm => h m (List.mem_cons_of_mem _ hm))
theorem placeL_hit : ∀ {L : List (List Int)} {n : Int} {k : Nat} (hk : k < L.length), n ∈ L[k] → (∀ j (hj : j < k), n ∉ L[j]) → placeL L n = (L[k].idxOf n : Int)
  | [], _, k, hk, _, _ => by cases hk
  | l :: L, n, 0, hk, h, _ => by
    show (if n ∈ l then _ else _) = _
    rw [if_pos (show n ∈ l from h)]; rfl
  | l :: L, n, k + 1, hk, h, hb => by
    show (if n ∈ l then _ else _) = _
    rw [if_neg (show n ∉ l from hb 0 (by omega))]
    exact placeL_hit (L := L) (k := k) (by simpa using hk) h (fun j hj => hb (j + 1) (by omega))
theorem place_hit {x : Ex} {n : Int} {k : Nat} {l : List Int} (hk : k < x.order.length) (hl : x.order[k]?.getD [] = l) (h : 0 ≤ atV l n) (hb : ∀ j, j < k → n ∉ x.order[j]?.getD []) : placeV x n = atV l n := by
  rw [List.getElem?_eq_getElem hk] at hl
  have hl : x.order[k] = l := hl
  subst hl
  have hm : n ∈ x.order[k] := by
    rcases Classical.em (n ∈ x.order[k]) with h1 | h1
    · exact h1
    · have := atV_neg.2 h1; omega
  unfold placeV
  rw [placeL_hit hk hm (fun j hj => by have := hb j hj; rw [List.getElem?_eq_getElem (by omega)] at this; exact this)]
  unfold atV; rw [if_pos hm]
theorem place_miss {x : Ex} {n : Int} (hb : ∀ j, j < x.order.length → n ∉ x.order[j]?.getD []) : placeV x n = -1 :=
  placeL_miss fun l hl => by
    obtain ⟨k, hk, rfl⟩ := List.getElem_of_mem hl
    have := hb k hk
    rw [List.getElem?_eq_getElem hk] at this; exact this
set_option maxRecDepth 100000 in
set_option maxHeartbeats 2000000 in
theorem rplace_any (x : Ex) (Ao : Option Addr) (co : Nat) (Ve Vf : Value) (n : Int) (w : World) (ho : Q.Rows w Ao x.order) :
    Calls Tryz.prog 97 #[.agg #[Ve, Vf, .slice Ao x.order.length co], .int .i64 n] w fun r w' => r = .returned (.int .i64 (placeV x n)) ∧ Below w.heap.size w w' := by
  have hx0 := ho.1
  go_enter Tryz.func97, Tryz.ntmps97
  go_upto_region 1 with (fail)
  obtain ⟨W0, s0, hW0, hbx, hsz, b0, b1, b2⟩ := box3 w 26 Ve Vf (.slice Ao x.order.length co)
  rw [hW0]
  clear hW0 b0 b1
  have ho0 := (ho.below hbx).fut s0
  have d2 := b2 s0
  have HEND := Lib.hid (hbx.trans (s0.below.mono (Nat.le_of_lt hsz)))
  clear b2 ho hbx hsz
  go_wp2
  go_loop [5] (fun i => ∃ k : Nat, k ≤ x.order.length ∧ i = .int .i64 k ∧ ∀ j, j < k → n ∉ x.order[j]?.getD []) (fun i => x.order.length - (intOf i).toNat)
  case atStart => exact ⟨0, Nat.zero_le _, rfl, fun j hj => by omega⟩
  case round =>
    obtain ⟨k, hk, rfl, hb⟩ := hrel
    have HB := Lib.hid hb
    clear hb
    by_cases hlt : k < x.order.length
    case neg =>
      obtain rfl : k = x.order.length := by omega
      go_wp2
      go_ret
      exact ⟨ret_int (place_miss HB.out), HEND.out⟩
    obtain ⟨bo, off, rfl, hrows⟩ := ho0.2 (by omega)
    obtain ⟨B, c, hrow, hints⟩ := hrows k hlt
    obtain ⟨l, hl⟩ : ∃ l, x.order[k]?.getD [] = l := ⟨_, rfl⟩
    rw [hl] at hrow hints
    have HL := Lib.hid hl
    have HAT := Lib.hid (at_any l B c n s0.val hints)
    clear hl hrows hints ho0
    by_cases hat : 0 ≤ atV l n
    · have HX := Lib.hid (place_hit hlt HL.out hat HB.out)
      have q : decide (0 ≤ atV l n) = true := decide_eq_true hat
      go_wp2_with (go_at_call 66; refine HAT.out.mono ?_; rintro e w' ⟨rfl, rfl⟩)
      go_ret
      exact ⟨ret_int HX.out, HEND.out⟩
    · have q : decide (0 ≤ atV l n) = false := decide_eq_false hat
      have HX := Lib.hid (atV_neg.1 (by omega : atV l n < 0))
      go_wp2_with (go_at_call 66; refine HAT.out.mono ?_; rintro e w' ⟨rfl, rfl⟩)
      go_round
      case rel => exact ⟨k + 1, by omega, by go_num, fun j hj => by
        by_cases hjk : j = k
        · subst hjk; rw [HL.out]; exact HX.out
        · exact HB.out j (by omega)⟩
      case measure => simp [intOf]; omega

set_option maxRecDepth 100000 in
set_option maxHeartbeats 2000000 in
theorem risCo_any (x : Ex) (Ae Ao : Option Addr) (ce co : Nat) (Vf : Value) (a b : Nat) (w : World) (he : Evs w Ae x.evs) (ho : Q.Rows w Ao x.order) (ha : a < x.evs.length) (hb : b < x.evs.length) :
    Calls Tryz.prog 69 #[.agg #[.slice Ae x.evs.length ce, Vf, .slice Ao x.order.length co], .int .i64 a, .int .i64 b] w fun r w' => r = .returned (.bool (isCo x a b)) ∧ Below w.heap.size w w' := by
  have hx0 := he.1
  obtain ⟨be, oe, rfl, _⟩ := he.2 (by omega)
  go_enter Tryz.func69, Tryz.ntmps69
  go_upto_region 1 with (fail)
  obtain ⟨W0, s0, hW0, hbx, hsz, b0, b1, b2⟩ := box3 w 26 (.slice (some ⟨be, oe, none⟩) x.evs.length ce) Vf (.slice Ao x.order.length co)
  rw [hW0]
  clear hW0
  have he0 := he.below hbx
  have hend : ∀ s : Fut W0, Below w.heap.size w s.val := fun s => hbx.trans (s.below.mono (Nat.le_of_lt hsz))
  have HEND := Lib.hid hend
  clear hend
  have hf := he0.at a ha
  obtain ⟨e, he⟩ : ∃ e, x.evs[a]?.getD zev = e := ⟨_, rfl⟩
  have HE := Lib.hid ((ev_get x a).trans he)
  rw [he] at hf
  obtain ⟨eP1, en1, eP2, en2, eP3, en3, f0, f1, f2, f3, f4, f5, f6, f7, f8, f9, f10, f11, f12, _, _, _⟩ := hf.facts
  clear hf he
  have hk := he0.at b hb
  obtain ⟨g, hg⟩ : ∃ e, x.evs[b]?.getD zev = e := ⟨_, rfl⟩
  have HG := Lib.hid ((ev_get x b).trans hg)
  rw [hg] at hk
  obtain ⟨gP1, gn1, gP2, gn2, gP3, gn3, k0, k1, k2, k3, k4, k5, k6, k7, k8, k9, k10, k11, k12, _, _, _⟩ := hk.facts
  clear hk hg
  have hpl : ∀ (n : Int) (s : Fut W0), Calls Tryz.prog 97 #[.agg #[.slice (some ⟨be, oe, none⟩) x.evs.length ce, Vf, .slice Ao x.order.length co], .int .i64 n] s.val fun r w' => r = .returned (.int .i64 (placeV x n)) ∧ Below s.val.heap.size s.val w' := fun n s => rplace_any x Ao co _ _ n s.val (ho.fut ⟨s.val, HEND.out s⟩)
  have HPL := Lib.hid hpl
  clear he he0 ho hpl
  refine wp_region_futs s0 (by kernel_rfl) (lexOf lexIsCo (by kernel_rfl)) ?_
  repeat (first
    | (refine wpQuiet_or rfl rfl rfl rfl ?_; simp only [Act.put, List.setIfInBounds_toArray, List.set_cons_succ, List.set_cons_zero])
    | (refine wpQuiet_and rfl rfl rfl rfl ?_; simp only [Act.put, List.setIfInBounds_toArray, List.set_cons_succ, List.set_cons_zero])
    | go_big_quiet_skip
    | (go_big_quiet_want; go_big_quiet_op; first | go_big_quiet_on | go_big_quiet_call (((first | (go_at_call 65; exact fut_callS _ (rstores_any _ _ _ _ _ _ _ _ _ _ _ _ _ _)) | (go_at_call 97; exact fut_callS _ (HPL.out _ _))))))
    | (refine wpQuiet_dead (by first | exact wanted_t rfl rfl rfl | exact wanted_f rfl rfl rfl | exact wanted_ts rfl rfl rfl | exact wanted_fs rfl rfl rfl) rfl (of_decide_eq_true rfl) (by simp only [Bool.not_true, Bool.and_false, Bool.false_and, Bool.or_true, Bool.true_or]) ?_; simp only [Act.put, List.setIfInBounds_toArray, List.set_cons_succ, List.set_cons_zero])
    | (refine wpQuiet_or_und rfl (by first | exact wanted_t rfl rfl rfl | exact wanted_f rfl rfl rfl | exact wanted_ts rfl rfl rfl | exact wanted_fs rfl rfl rfl) rfl (of_decide_eq_true rfl) rfl rfl ?_; simp only [Act.put, List.setIfInBounds_toArray, List.set_cons_succ, List.set_cons_zero])
    | (refine wpQuiet_and_und rfl (by first | exact wanted_t rfl rfl rfl | exact wanted_f rfl rfl rfl | exact wanted_ts rfl rfl rfl | exact wanted_fs rfl rfl rfl) rfl (of_decide_eq_true rfl) rfl rfl ?_; simp only [Act.put, List.setIfInBounds_toArray, List.set_cons_succ, List.set_cons_zero])
    | (refine wpQuiet_und (by first | exact wanted_t rfl rfl rfl | exact wanted_f rfl rfl rfl | exact wanted_ts rfl rfl rfl | exact wanted_fs rfl rfl rfl) rfl (of_decide_eq_true rfl) ?_
       apply Exists.intro
       refine ⟨fun hb => ?_, ?_⟩
       · (skip)
         (try simp only [sel_of hb])
         (try (have hb1 := and_l hb; (try simp only [sel_of hb1]); (try (have hb2 := and_l hb1; (try simp only [sel_of hb2]); (try (have hb3 := and_l hb2; (try simp only [sel_of hb3])))))))
         go_big_quiet_op
         first | ((show Act.eval _ (Operand.tmp _) = _); conv => (lhs; whnf)) | (apply Exists.intro; refine ⟨fun _ => ?_, ?_⟩; (focus ((first | (go_at_call 65; exact fut_callS _ (rstores_any _ _ _ _ _ _ _ _ _ _ _ _ _ _)) | (go_at_call 97; exact fut_callS _ (HPL.out _ _))))); ((show Act.eval _ (Operand.tmp _) = _); conv => (lhs; whnf)))
       simp only [Act.put, List.setIfInBounds_toArray, List.set_cons_succ, List.set_cons_zero]))
  refine wpQuiet_nil ?_
  intro s1
  go_wp2
  go_ret
  exact ⟨ret_bool (by unfold isCo; rw [HE.out, HG.out, Bool.and_assoc, Bool.and_assoc]; rfl), HEND.out s1⟩

set_option maxRecDepth 100000 in
set_option maxHeartbeats 2000000 in
theorem risFr_any (x : Ex) (Ae Af Ao : Option Addr) (ce cf co : Nat) (a b : Nat) (w : World) (he : Evs w Ae x.evs) (hf : Ints w Af x.src) (ho : Q.Rows w Ao x.order) (ha : a < x.evs.length) (hb : b < x.evs.length) (has : a < x.src.length) (hsrc : loads (ev x a) = true → 0 ≤ x.src.getD a 0 ∧ x.src.getD a 0 < x.evs.length) :
    Calls Tryz.prog 70 #[.agg #[.slice Ae x.evs.length ce, .slice Af x.src.length cf, .slice Ao x.order.length co], .int .i64 a, .int .i64 b] w fun r w' => r = .returned (.bool (isFr x a b)) ∧ Below w.heap.size w w' := by
  have hx0 := he.1
  obtain ⟨be, oe, rfl, _⟩ := he.2 (by omega)
  obtain ⟨bf, of, rfl, hcf⟩ := hf.2 (by omega)
  have hca := hcf a has
  obtain ⟨f, hfv⟩ : ∃ f, x.src[a]?.getD 0 = f := ⟨_, rfl⟩
  have hsr := List.getD_eq_getElem?_getD (l := x.src) (i := a) (a := 0)
  rw [hfv] at hca hsr
  rw [hsr] at hsrc
  have HSRC := Lib.hid hsr
  have hf0 := hf.1
  have HV := Lib.hid (show isFr x a b = (a != b && (loads (ev x a) && isCo x f.toNat b)) from by unfold isFr; rw [HSRC.out])
  clear hsr hfv hcf
  go_enter Tryz.func70, Tryz.ntmps70
  go_upto_region 1 with (fail)
  obtain ⟨W0, s0, hW0, hbx, hsz, b0, b1, b2⟩ := box3 w 26 (.slice (some ⟨be, oe, none⟩) x.evs.length ce) (.slice (some ⟨bf, of, none⟩) x.src.length cf) (.slice Ao x.order.length co)
  rw [hW0]
  clear hW0
  have he0 := he.below hbx
  have hend : ∀ s : Fut W0, Below w.heap.size w s.val := fun s => hbx.trans (s.below.mono (Nat.le_of_lt hsz))
  have HEND := Lib.hid hend
  clear hend
  have hf := he0.at a ha
  obtain ⟨e, he⟩ : ∃ e, x.evs[a]?.getD zev = e := ⟨_, rfl⟩
  have HE := Lib.hid ((ev_get x a).trans he)
  rw [he] at hf
  obtain ⟨eP1, en1, eP2, en2, eP3, en3, f0, f1, f2, f3, f4, f5, f6, f7, f8, f9, f10, f11, f12, _, _, _⟩ := hf.facts
  clear hf he
  have hca2 : ∀ s : Fut W0, s.val.cell? ⟨bf, of + a, none⟩ = some (.int .i64 f) := fun s => (⟨s.val, HEND.out s⟩ : Fut w).cell hca
  rw [HE.out] at hsrc
  have HSR2 := Lib.hid hsrc
  have hes : ∀ s : Fut W0, Evs s.val (some ⟨be, oe, none⟩) x.evs := fun s => he0.fut s
  have hos : ∀ s : Fut W0, Q.Rows s.val Ao x.order := fun s => ho.fut ⟨s.val, HEND.out s⟩
  have HES := Lib.hid hes
  have HOS := Lib.hid hos
  clear he he0 hf hca ho hsrc hes hos
  have hvd : loads e = (e.kind == 1 || e.kind == 3) := rfl
  by_cases hab : a = b
  case pos =>
    have q : ((a : Int) != (b : Int)) = false := by simp [hab]
    have HR := Lib.hid (show isFr x a b = false from by rw [HV.out]; simp [hab])
    clear hab
    refine wp_region_futs s0 (by kernel_rfl) (lexOf lexIsFr (by kernel_rfl)) ?_
    repeat (go_big_quiet_step (fail))
    refine wpQuiet_nil ?_
    intro s1
    go_wp2
    go_ret
    exact ⟨ret_bool HR.out, HEND.out s1⟩
  have q : ((a : Int) != (b : Int)) = true := by simp; omega
  have q2 : (a != b) = true := by simp; omega
  have HV2 := Lib.hid (show isFr x a b = (loads e && isCo x f.toNat b) from by rw [HV.out, q2, HE.out]; rfl)
  clear hab q2
  cases hld : (e.kind == 1 || e.kind == 3)
  · have HR := Lib.hid (show isFr x a b = false from by rw [HV2.out, hvd, hld]; rfl)
    clear hvd
    refine wp_region_futs s0 (by kernel_rfl) (lexOf lexIsFr (by kernel_rfl)) ?_
    repeat (go_big_quiet_step ((go_at_call 64; exact fut_callS _ (rloads_any _ _ _ _ _ _ _ _ _ _ _ _ _ _))))
    refine wpQuiet_nil ?_
    intro s1
    go_wp2
    go_ret
    exact ⟨ret_bool HR.out, HEND.out s1⟩
  · have HR := Lib.hid (show isFr x a b = isCo x f.toNat b from by rw [HV2.out, hvd, hld]; rfl)
    have hfr := HSR2.out (hvd.trans hld)
    obtain ⟨m, rfl⟩ := Int.eq_ofNat_of_zero_le hfr.1
    have hco : ∀ s : Fut W0, Calls Tryz.prog 69 #[.agg #[.slice (some ⟨be, oe, none⟩) x.evs.length ce, .slice (some ⟨bf, of, none⟩) x.src.length cf, .slice Ao x.order.length co], .int .i64 m, .int .i64 b] s.val fun r w' => r = .returned (.bool (isCo x m b)) ∧ Below s.val.heap.size s.val w' := fun s => risCo_any x _ Ao ce co _ m b s.val (HES.out s) (HOS.out s) (by omega) hb
    have HCO := Lib.hid hco
    clear hvd hco hfr
    refine wp_region_futs s0 (by kernel_rfl) (lexOf lexIsFr (by kernel_rfl)) ?_
    repeat (go_big_quiet_step (first | (go_at_call 64; exact fut_callS _ (rloads_any _ _ _ _ _ _ _ _ _ _ _ _ _ _)) | (go_at_call 69; exact fut_callS _ (HCO.out _))))
    refine wpQuiet_nil ?_
    intro s1
    go_wp2
    go_ret
    exact ⟨ret_bool HR.out, HEND.out s1⟩
end Go.Proofs.YtacnbdnmkmpldaaGreat
