/- The reference's Check. -/
import Derived.Test.YtacnbdnmkmpldaaGreatEvH
import Derived.Test.YtacnbdnmkmpldaaGreatRefA
import Derived.Test.YtacnbdnmkmpldaaGreatRefB
import Derived.Test.YtacnbdnmkmpldaaGreatPure
import Derived.Test.YtacnbdnmkmpldaaGreatRAt
import Derived.Test.YtacnbdnmkmpldaaGreatAcD
import Derived.Deep.RegionHeld3
namespace Go.Proofs.YtacnbdnmkmpldaaGreat
open Go Go.Proofs Go.RowKit Q
set_option linter.unusedSimpArgs false
set_option linter.unusedVariables false

theorem from9 {x : Ex} {k m : Nat} {e g : Ev} {b : Bool} (he : e = x.evs[k]?.getD zev) (hg : g = x.evs[m]?.getD zev) (hm : m < x.evs.length) (hl : (e.kind == 1 || e.kind == 3) = true)
    (hb : (decide (x.evs.length ≤ m) || (m : Int) == (k : Int) || !g.kind == 2 && !g.kind == 3 && !g.kind == 5 || g.addr != e.addr || g.value != e.readv) = b) : srcOk x k (m : Int) = !b := by
  have hgg : evI x (m : Int) = g := by rw [hg]; rfl
  have d1 : decide ((m : Int) < x.evs.length) = true := decide_eq_true (by omega)
  have d2 : decide (0 ≤ (m : Int)) = true := decide_eq_true (by omega)
  have d3 : decide (x.evs.length ≤ m) = false := decide_eq_false (by omega)
  rw [src_eq he, hgg, ← hb, hl, d1, d2, d3]
  clear d1 d2 d3 hgg he hg hb hl
  simp only [stores]
  cases c : g.kind == 2 <;> cases d : g.kind == 3 <;> cases f' : g.kind == 5 <;> cases m' : (m : Int) == (k : Int) <;> simp [bne, m']
theorem begin_stores {x : Ex} {adr : List Int} (ha : addrsOf x.evs = adr) (hT : evsTo x x.evs.length = true) (hl : adr.length ≤ x.evs.length) {a : Nat} (h : a < adr.length) : 0 < (storesAt x (adr.getD a 0)).length := by
  have he := List.all_eq_true.1 hT a (List.mem_range.2 (by omega))
  rw [ha] at he
  simp only [eventB, Bool.and_eq_true, if_pos h, beq_iff_eq] at he
  obtain ⟨_, _, _, _, _, h5, h6⟩ := he
  have hm : (a : Int) ∈ storesAt x (adr.getD a 0) := mem_storesAt.2 ⟨by omega, by simp [stores, h5], h6⟩
  exact List.length_pos_of_mem hm
theorem ref_no1 {x : Ex} {adr l : List Int} {a n : Nat} {ad : Int} {e : Ev} (hne : 0 < (storesAt x (adr.getD a 0)).length) (had : adr[a]?.getD 0 = ad) (hn : n < x.evs.length) (he : e = x.evs[n]?.getD zev)
    (hs : ((e.kind == 2 || e.kind == 3 || e.kind == 5) && e.addr == ad) = true) (hl : atV l (n : Int) < 0) : orderOk x adr a l = false := by
  rw [orderOk_ref hne, List.getD_eq_getElem?_getD, had]
  have h1 : allIn x ad l x.evs.length = false := allIn_no hn (by
    have h2 : (stores (ev x n) && (ev x n).addr == ad) = true := by subst he; exact hs
    rw [h2]
    have := atV_neg.1 hl
    simpa using this)
  rw [h1]; rfl
theorem allIn_next {x : Ex} {l : List Int} {n : Nat} {ad : Int} {e : Ev} (he : e = x.evs[n]?.getD zev) (hi : allIn x ad l n = true) (h : ((e.kind == 2 || e.kind == 3 || e.kind == 5) && e.addr == ad) = false ∨ ¬ atV l (n : Int) < 0) : allIn x ad l (n + 1) = true := by
  rw [allIn_succ, hi]
  rcases h with h | h
  · have h2 : (stores (ev x n) && (ev x n).addr == ad) = false := by subst he; exact h
    rw [h2]; rfl
  · have h3 : l.contains (n : Int) = true := by
      have : ¬ (n : Int) ∉ l := fun hn => h (atV_neg.2 hn)
      simpa using this
    rw [h3]; simp
theorem ref_end {x : Ex} {adr l : List Int} {a : Nat} {ad : Int} (hne : 0 < (storesAt x (adr.getD a 0)).length) (had : adr[a]?.getD 0 = ad) (hi : allIn x ad l x.evs.length = true) :
    orderOk x adr a l = (l.length == (storesTo x ad x.evs.length).length && l[0]?.getD 0 == (a : Int)) := by
  rw [orderOk_ref hne, List.getD_eq_getElem?_getD, had, hi, List.getD_eq_getElem?_getD]; rfl
theorem cell_new {w : World} {a : Addr} {v : Value} (o : Obj) (h : w.cell? a = some v) : (w.alloc o).drew.cell? a = some v := cell_kept h (grown_alloc_drew w o none) (fun j e => by cases e)
theorem rev_a {x : Ex} {n K : Nat} {l : List Int} {e : Ev} (he : e = x.evs[n]?.getD zev) (hn : n < K) (h5 : ¬ e.kind = 5) (h : (!bareB e || e.addr % 4 != 0 || !hangsB x n e.addrs || !hangsB x n e.datas || !hangsB x n e.ctrls) = false) : eventB x n K l = false := by
  rw [event0 he h, if_pos hn]; simp [h5]
theorem rev_b {x : Ex} {n K : Nat} {l : List Int} {e : Ev} (he : e = x.evs[n]?.getD zev) (hn : ¬ n < K) (h5 : e.kind = 5) (h : (!bareB e || e.addr % 4 != 0 || !hangsB x n e.addrs || !hangsB x n e.datas || !hangsB x n e.ctrls) = false) : eventB x n K l = false := by
  rw [event0 he h, if_neg hn]; simp [h5]
theorem rev_c {x : Ex} {n K : Nat} {l : List Int} {e : Ev} (he : e = x.evs[n]?.getD zev) (hn : ¬ n < K) (hh : e.hart < 0 ∨ 3 < e.hart) (h : (!bareB e || e.addr % 4 != 0 || !hangsB x n e.addrs || !hangsB x n e.datas || !hangsB x n e.ctrls) = false) : eventB x n K l = false := by
  rw [event0 he h, if_neg hn]
  rcases hh with hh | hh
  · rw [decide_eq_false (show ¬ 0 ≤ e.hart by omega)]; simp
  · rw [decide_eq_false (show ¬ e.hart < 4 by omega)]; simp
theorem rev_e {x : Ex} {n K : Nat} {l : List Int} {e : Ev} (he : e = x.evs[n]?.getD zev) (hn : n = K) (h5 : ¬ e.kind = 5) (h0 : 0 ≤ e.hart) (h3 : e.hart ≤ 3) (h : (!bareB e || e.addr % 4 != 0 || !hangsB x n e.addrs || !hangsB x n e.datas || !hangsB x n e.ctrls) = false) : eventB x n K l = true := by
  rw [event0 he h, if_neg (by omega), decide_eq_true h0, decide_eq_true (show e.hart < 4 by omega)]; simp [h5, hn]
theorem rev_f {x : Ex} {n K : Nat} {l : List Int} {e p : Ev} (he : e = x.evs[n]?.getD zev) (hp : p = x.evs[n - 1]?.getD zev) (hn : K < n) (h5 : ¬ e.kind = 5) (h0 : 0 ≤ e.hart) (h3 : e.hart ≤ 3) (h : (!bareB e || e.addr % 4 != 0 || !hangsB x n e.addrs || !hangsB x n e.datas || !hangsB x n e.ctrls) = false) : eventB x n K l = !decide (e.hart < p.hart) := by
  rw [event4 he hp h hn, decide_eq_true h0, decide_eq_true (show e.hart < 4 by omega)]
  have : decide (p.hart ≤ e.hart) = !decide (e.hart < p.hart) := by
    rw [Bool.eq_iff_iff]; simp only [decide_eq_true_eq, Bool.not_eq_true', decide_eq_false_iff_not]; omega
  simp [h5, this]
theorem rev_g {x : Ex} {n K : Nat} {l : List Int} {e : Ev} {v : Int} (he : e = x.evs[n]?.getD zev) (hv : v = l[n]?.getD 0) (hn : n < K) (h5 : e.kind = 5) (h : (!bareB e || e.addr % 4 != 0 || !hangsB x n e.addrs || !hangsB x n e.datas || !hangsB x n e.ctrls) = false) : eventB x n K l = !(e.addr != v || false && false) := by
  rw [event2 he hv h hn, h5]; simp [bne]

set_option maxRecDepth 100000 in
set_option maxHeartbeats 8000000 in
theorem rcheck_any (x : Ex) (hok : ExOk x) (Ae Af Ao : Option Addr) (ce cf co : Nat) (w : World) (he : Evs w Ae x.evs) (hf : Ints w Af x.src) (ho : Q.Rows w Ao x.order) :
    Calls Tryz.prog 26 #[.agg #[.slice Ae x.evs.length ce, .slice Af x.src.length cf, .slice Ao x.order.length co]] w fun r w' =>
      r = .returned (.int .i64 (checkV x)) ∧ Below w.heap.size w w' := by
  have hx0 := he.1
  have hf0 := hf.1
  have ho0 := ho.1
  go_enter Tryz.func26, Tryz.ntmps26
  go_upto_region 1 with (fail)
  obtain ⟨W0, s0, hW0, hbx, hsz, b0, b1, b2⟩ := box3 w 26 (.slice Ae x.evs.length ce) (.slice Af x.src.length cf) (.slice Ao x.order.length co)
  rw [hW0]
  clear hW0
  have he0 := he.below hbx
  have hf1 := hf.below hbx
  have ho1 := ho.below hbx
  clear he hf ho
  have hend : ∀ s : Fut W0, Below w.heap.size w s.val := fun s => hbx.trans (s.below.mono (Nat.le_of_lt hsz))
  have HEND := Lib.hid hend
  clear hend
  have e0 := b0 s0
  have e1 := b1 s0
  have e2 := b2 s0
  by_cases hlong : 64 < x.evs.length
  · have q : decide ((64 : Int) < (x.evs.length : Int)) = true := decide_eq_true (by omega)
    go_wp2
    go_ret
    exact ⟨ret_int (check_long hlong), HEND.out s0⟩
  have q8 : decide ((64 : Int) < (x.evs.length : Int)) = false := decide_eq_false (by omega)
  have hev0 : ∀ s : Fut W0, Evs s.val Ae x.evs := fun s => he0.fut s
  have hlen := addrsOf_len x
  go_wp2_with fail
  refine (raddrs_any x Ae ce _ _ _ (hev0 _)).mono ?_
  rintro e w1 ⟨Aa, ca, rfl, hua, hba⟩
  have c0 : ∀ s : Fut w1, s.val.cell? ⟨w.heap.size, 0, none⟩ = some (.slice Ae x.evs.length ce) := fun s => b0 (s0.up hba s)
  have c1 : ∀ s : Fut w1, s.val.cell? ⟨w.heap.size, 1, none⟩ = some (.slice Af x.src.length cf) := fun s => b1 (s0.up hba s)
  have c2 : ∀ s : Fut w1, s.val.cell? ⟨w.heap.size, 2, none⟩ = some (.slice Ao x.order.length co) := fun s => b2 (s0.up hba s)
  have hw1 : Below w.heap.size w w1 := (HEND.out s0).trans (hba.mono (HEND.out s0).size)
  have hend : ∀ s : Fut w1, Below w.heap.size w s.val := fun s => hw1.trans (s.below.mono hw1.size)
  have HE1 := Lib.hid hend
  have he1 := (he0.fut s0).below hba
  have hf2 := (hf1.fut s0).below hba
  have ho2 := (ho1.fut s0).below hba
  generalize hadr : addrsOf x.evs = adr at hua hlen ⊢
  have HADR := Lib.hid hadr
  clear b0 b1 b2 he0 hf1 ho1 HEND hev0 hend hw1 hba e0 e1 e2 hadr
  have hlb := hua.1
  go_wp2
  go_loopw [6] (fun i wr => ∃ k : Nat, k ≤ x.evs.length ∧ i = .int .i64 k ∧ evsTo x k = true ∧ ∃ s : Fut w1, wr = s.val) (fun i _ => x.evs.length - (intOf i).toNat)
  case atStart => exact ⟨0, Nat.zero_le _, rfl, rfl, ⟨w1, Below.refl _ _⟩, rfl⟩
  case round =>
    obtain ⟨k, hk, rfl, hT, s, rfl⟩ := hrel
    have HT := Lib.hid hT
    clear hT
    by_cases hlt : k < x.evs.length
    · obtain ⟨be, oe, rfl, _⟩ := he1.2 (by omega)
      obtain ⟨e, hen⟩ : ∃ e, e = x.evs[k]?.getD zev := ⟨_, rfl⟩
      have hok1 := hok.ev k hlt
      rw [← hen] at hok1
      have a0 : 0 ≤ e.addr := hok1.addr.1
      have hE := he1.at k hlt
      rw [← hen] at hE
      obtain ⟨Aa', ca', Ad, cd, Ac, cc, f0, f1, f2, f3, f4, f5, f6, f7, f8, f9, f10, f11, f12, ia, id_, ic⟩ := hE.facts
      have HEN := Lib.hid hen
      clear hen hE hok1
      have g0 := f0 s
      have g1 := f1 s
      have g2 := f2 s
      have g3 := f3 s
      have g4 := f4 s
      have g5 := f5 s
      have g6 := f6 s
      have g7 := f7 s
      have g8 := f8 s
      have g9 := f9 s
      have g10 := f10 s
      have g11 := f11 s
      have g12 := f12 s
      have d0 := c0 s
      go_upto_region 10 with (fail)
      obtain ⟨W1, s1, hW1, hbx1, hsz1, v0, v1, v2, v3, v4, v5, v6, v7, v8, v9, v10, v11, v12⟩ := box13 s.val 42 (.int .i64 e.hart) (.int .i64 e.kind) (.int .u32 e.addr) (.int .u32 e.value) (.int .u32 e.readv) (.bool e.aq) (.bool e.rl) (.int .i64 e.pred) (.int .i64 e.succ) (.bool e.resv) (.slice Aa' e.addrs.length ca') (.slice Ad e.datas.length cd) (.slice Ac e.ctrls.length cc)
      rw [hW1]
      clear hW1 f0 f1 f2 f3 f4 f5 f6 f7 f8 f9 f10 f11 f12 g0 g1 g2 g3 g4 g5 g6 g7 g8 g9 g10 g11 g12 d0
      have b0' : ∀ t : Fut W1, t.val.cell? ⟨w.heap.size, 0, none⟩ = some (.slice (some ⟨be, oe, none⟩) x.evs.length ce) := fun t => c0 (s.up hbx1 t)
      have b1' : ∀ t : Fut W1, t.val.cell? ⟨w.heap.size, 1, none⟩ = some (.slice Af x.src.length cf) := fun t => c1 (s.up hbx1 t)
      have b2' : ∀ t : Fut W1, t.val.cell? ⟨w.heap.size, 2, none⟩ = some (.slice Ao x.order.length co) := fun t => c2 (s.up hbx1 t)
      have hev : ∀ t : Fut W1, Evs t.val (some ⟨be, oe, none⟩) x.evs := fun t => he1.fut (s.up hbx1 t)
      have hll : ∀ t : Fut W1, U32s t.val Aa adr := fun t => hua.fut (s.up hbx1 t)
      have ia1 : ∀ t : Fut W1, Ints t.val Aa' e.addrs := fun t => ia.fut (s.up hbx1 t)
      have id1 : ∀ t : Fut W1, Ints t.val Ad e.datas := fun t => id_.fut (s.up hbx1 t)
      have ic1 : ∀ t : Fut W1, Ints t.val Ac e.ctrls := fun t => ic.fut (s.up hbx1 t)
      have la0 := ia.1
      have ld0 := id_.1
      have lc0 := ic.1
      clear ia id_ ic
      refine wp_region_futps s1 ?_
      repeat (first
        | (refine wpQuiet_or rfl rfl rfl rfl ?_; simp only [Act.put, List.setIfInBounds_toArray, List.set_cons_succ, List.set_cons_zero])
        | (refine wpQuiet_and rfl rfl rfl rfl ?_; simp only [Act.put, List.setIfInBounds_toArray, List.set_cons_succ, List.set_cons_zero])
        | go_big_quiet_skip
        | (go_big_quiet_want; go_big_quiet_op; first | go_big_quiet_on | go_big_quiet_call ((first | (go_at_call 62; exact fut_callS _ (rbare_any e _ _ _ _ _ _ _ la0 ld0 lc0)) | (go_at_call 63; first | (with_reducible exact (fut_callS _ (rhangs_any x _ ce (.slice Af x.src.length cf) (.slice Ao x.order.length co) Aa' ca' e.addrs k _ (hev _) (ia1 _) hlt))) | (with_reducible exact (fut_callS _ (rhangs_any x _ ce (.slice Af x.src.length cf) (.slice Ao x.order.length co) Ad cd e.datas k _ (hev _) (id1 _) hlt))) | (with_reducible exact (fut_callS _ (rhangs_any x _ ce (.slice Af x.src.length cf) (.slice Ao x.order.length co) Ac cc e.ctrls k _ (hev _) (ic1 _) hlt)))))))
        | (refine wpQuiet_dead (by first | exact wanted_t rfl rfl rfl | exact wanted_f rfl rfl rfl | exact wanted_ts rfl rfl rfl | exact wanted_fs rfl rfl rfl) rfl (of_decide_eq_true rfl) (by simp only [Bool.not_true, Bool.and_false, Bool.false_and, Bool.or_true, Bool.true_or]) ?_; simp only [Act.put, List.setIfInBounds_toArray, List.set_cons_succ, List.set_cons_zero])
        | (refine wpQuiet_or_und rfl (by first | exact wanted_t rfl rfl rfl | exact wanted_f rfl rfl rfl | exact wanted_ts rfl rfl rfl | exact wanted_fs rfl rfl rfl) rfl (of_decide_eq_true rfl) rfl rfl ?_; simp only [Act.put, List.setIfInBounds_toArray, List.set_cons_succ, List.set_cons_zero])
        | (refine wpQuiet_and_und rfl (by first | exact wanted_t rfl rfl rfl | exact wanted_f rfl rfl rfl | exact wanted_ts rfl rfl rfl | exact wanted_fs rfl rfl rfl) rfl (of_decide_eq_true rfl) rfl rfl ?_; simp only [Act.put, List.setIfInBounds_toArray, List.set_cons_succ, List.set_cons_zero])
        | (refine wpQuiet_und (by first | exact wanted_t rfl rfl rfl | exact wanted_f rfl rfl rfl | exact wanted_ts rfl rfl rfl | exact wanted_fs rfl rfl rfl) rfl (of_decide_eq_true rfl) ?_
           apply Exists.intro
           refine ⟨fun hb => ?_, ?_⟩
           · (skip)
             (try simp only [sel_of hb])
             (try (have hb1 := and_l hb; (try simp only [sel_of hb1]); (try (have hb2 := and_l hb1; (try simp only [sel_of hb2]); (try (have hb3 := and_l hb2; (try simp only [sel_of hb3])))))))
             go_big_quiet_op
             first | ((show Act.eval _ (Operand.tmp _) = _); conv => (lhs; whnf)) | (apply Exists.intro; refine ⟨fun _ => ?_, ?_⟩; (focus (first | (go_at_call 62; exact fut_callS _ (rbare_any e _ _ _ _ _ _ _ la0 ld0 lc0)) | (go_at_call 63; first | (with_reducible exact (fut_callS _ (rhangs_any x _ ce (.slice Af x.src.length cf) (.slice Ao x.order.length co) Aa' ca' e.addrs k _ (hev _) (ia1 _) hlt))) | (with_reducible exact (fut_callS _ (rhangs_any x _ ce (.slice Af x.src.length cf) (.slice Ao x.order.length co) Ad cd e.datas k _ (hev _) (id1 _) hlt))) | (with_reducible exact (fut_callS _ (rhangs_any x _ ce (.slice Af x.src.length cf) (.slice Ao x.order.length co) Ac cc e.ctrls k _ (hev _) (ic1 _) hlt)))))); ((show Act.eval _ (Operand.tmp _) = _); conv => (lhs; whnf)))
           simp only [Act.put, List.setIfInBounds_toArray, List.set_cons_succ, List.set_cons_zero]))
      refine wpQuiet_nil ?_
      intro s2
      generalize h1 : (!bareB e || e.addr % 4 != 0 || !hangsB x k e.addrs || !hangsB x k e.datas || !hangsB x k e.ctrls) = b67
      have H1 := Lib.hid h1
      clear h1
      cases b67
      case true =>
        go_wp2
        go_ret
        exact ⟨ret_int (check_ev hlong hlt (by rw [HADR.out]; exact event1 HEN.out H1.out)), HE1.out (s.up hbx1 s2)⟩
      go_upto_region 13 with (fail)
      by_cases hkK : k < adr.length
      · have q74 : decide (k < adr.length) = true := decide_eq_true hkK
        have q74' : decide ((k : Int) < (adr.length : Int)) = true := decide_eq_true (by omega)
        by_cases hk5 : e.kind = 5
        · have q5 : (e.kind == 5) = true := by simp [hk5]
          obtain ⟨ba, oa, rfl, hcl⟩ := (hll s2).2 (by omega)
          have hcn : ∀ t : Fut W1, t.val.cell? ⟨ba, oa + k, none⟩ = some (.int .u32 (adr[k]?.getD 0)) := fun t => by
            obtain ⟨b', o', e', hc'⟩ := (hll t).2 (by omega)
            injection e' with e'; injection e' with e1 e2; subst e1 e2
            exact hc' k hkK
          obtain ⟨av, hav⟩ : ∃ av, av = adr[k]?.getD 0 := ⟨_, rfl⟩
          rw [← hav] at hcn
          have HAV := Lib.hid hav
          have HK5 := Lib.hid hk5
          have hmin : min (k : Int) ((adr.length : Int) - 1) = (k : Int) := by omega
          rw [q5]
          clear hcl hav hk5 q5
          refine wp_region_futs s2 (by kernel_rfl) (lexOf lexRCheck13 (by kernel_rfl)) ?_
          repeat (first
            | (refine wpQuiet_or rfl rfl rfl rfl ?_; simp only [Act.put, List.setIfInBounds_toArray, List.set_cons_succ, List.set_cons_zero])
            | (refine wpQuiet_and rfl rfl rfl rfl ?_; simp only [Act.put, List.setIfInBounds_toArray, List.set_cons_succ, List.set_cons_zero])
            | go_big_quiet_skip
            | (go_big_quiet_want; go_big_quiet_op; first | go_big_quiet_on | go_big_quiet_call ((fail)))
            | (refine wpQuiet_dead (by first | exact wanted_t rfl rfl rfl | exact wanted_f rfl rfl rfl | exact wanted_ts rfl rfl rfl | exact wanted_fs rfl rfl rfl) rfl (of_decide_eq_true rfl) (by simp only [Bool.not_true, Bool.and_false, Bool.false_and, Bool.or_true, Bool.true_or]) ?_; simp only [Act.put, List.setIfInBounds_toArray, List.set_cons_succ, List.set_cons_zero])
            | (refine wpQuiet_or_und rfl (by first | exact wanted_t rfl rfl rfl | exact wanted_f rfl rfl rfl | exact wanted_ts rfl rfl rfl | exact wanted_fs rfl rfl rfl) rfl (of_decide_eq_true rfl) rfl rfl ?_; simp only [Act.put, List.setIfInBounds_toArray, List.set_cons_succ, List.set_cons_zero])
            | (refine wpQuiet_and_und rfl (by first | exact wanted_t rfl rfl rfl | exact wanted_f rfl rfl rfl | exact wanted_ts rfl rfl rfl | exact wanted_fs rfl rfl rfl) rfl (of_decide_eq_true rfl) rfl rfl ?_; simp only [Act.put, List.setIfInBounds_toArray, List.set_cons_succ, List.set_cons_zero])
            | (refine wpQuiet_und (by first | exact wanted_t rfl rfl rfl | exact wanted_f rfl rfl rfl | exact wanted_ts rfl rfl rfl | exact wanted_fs rfl rfl rfl) rfl (of_decide_eq_true rfl) ?_
               apply Exists.intro
               refine ⟨fun hb => ?_, ?_⟩
               · (skip)
                 (try simp only [sel_of hb])
                 (try (have hb1 := and_l hb; (try simp only [sel_of hb1]); (try (have hb2 := and_l hb1; (try simp only [sel_of hb2]); (try (have hb3 := and_l hb2; (try simp only [sel_of hb3])))))))
                 go_big_quiet_op
                 first | ((show Act.eval _ (Operand.tmp _) = _); conv => (lhs; whnf)) | (apply Exists.intro; refine ⟨fun _ => ?_, ?_⟩; (focus (fail)); ((show Act.eval _ (Operand.tmp _) = _); conv => (lhs; whnf)))
               simp only [Act.put, List.setIfInBounds_toArray, List.set_cons_succ, List.set_cons_zero]))
          refine wpQuiet_nil ?_
          intro s3
          generalize hbb : (e.addr != av || false && false) = bb
          have HBB := Lib.hid hbb
          clear hbb
          cases bb
          case true =>
            go_wp2
            go_ret
            exact ⟨ret_int (check_ev hlong hlt (by rw [HADR.out]; exact (rev_g HEN.out HAV.out hkK HK5.out H1.out).trans (by rw [HBB.out]; rfl))), HE1.out (s.up hbx1 s3)⟩
          case false =>
            go_wp2
            go_roundw
            case rel => exact ⟨k + 1, by omega, by go_num, by rw [evsTo_succ, HT.out, HADR.out, (rev_g HEN.out HAV.out hkK HK5.out H1.out), HBB.out]; rfl, s.up hbx1 s3, rfl⟩
            case measure => simp [intOf]; omega
        · have q5 : (e.kind == 5) = false := by simp [hk5]
          have HK5 := Lib.hid hk5
          rw [q5]
          clear hk5 q5
          refine wp_region_futs s2 (by kernel_rfl) (lexOf lexRCheck13 (by kernel_rfl)) ?_
          repeat (go_big_quiet_step (fail))
          refine wpQuiet_nil ?_
          intro s3
          go_wp2
          go_ret
          exact ⟨ret_int (check_ev hlong hlt (by rw [HADR.out]; exact rev_a HEN.out hkK HK5.out H1.out)), HE1.out (s.up hbx1 s3)⟩
      · have q74 : decide (k < adr.length) = false := decide_eq_false hkK
        have q74' : decide ((k : Int) < (adr.length : Int)) = false := decide_eq_false (by omega)
        by_cases hk5 : e.kind = 5
        · have q5 : (e.kind == 5) = true := by simp [hk5]
          have HK5 := Lib.hid hk5
          rw [q5]
          clear hk5 q5
          refine wp_region_futs s2 (by kernel_rfl) (lexOf lexRCheck13 (by kernel_rfl)) ?_
          repeat (go_big_quiet_step (fail))
          refine wpQuiet_nil ?_
          intro s3
          go_wp2
          go_ret
          exact ⟨ret_int (check_ev hlong hlt (by rw [HADR.out]; exact rev_b HEN.out hkK HK5.out H1.out)), HE1.out (s.up hbx1 s3)⟩
        · have q5 : (e.kind == 5) = false := by simp [hk5]
          have HK5 := Lib.hid hk5
          rw [q5]
          clear hk5 q5
          by_cases hkE : k = adr.length
          · have q106 : decide (adr.length < k) = false := decide_eq_false (by omega)
            have q106' : decide ((adr.length : Int) < (k : Int)) = false := decide_eq_false (by omega)
            have HKE := Lib.hid hkE
            clear hkE
            rcases (show e.hart < 0 ∨ (0 ≤ e.hart ∧ 3 < e.hart) ∨ (0 ≤ e.hart ∧ e.hart ≤ 3) by omega) with h0 | ⟨h0, h3⟩ | ⟨h0, h3⟩
            · have qa : decide (e.hart < 0) = true := decide_eq_true h0
              refine wp_region_futs s2 (by kernel_rfl) (lexOf lexRCheck13 (by kernel_rfl)) ?_
              repeat (go_big_quiet_step (fail))
              refine wpQuiet_nil ?_
              intro s3
              go_wp2
              go_ret
              exact ⟨ret_int (check_ev hlong hlt (by rw [HADR.out]; exact rev_c HEN.out hkK (.inl h0) H1.out)), HE1.out (s.up hbx1 s3)⟩
            · have qa : decide (e.hart < 0) = false := decide_eq_false (by omega)
              have qb : decide (3 < e.hart) = true := decide_eq_true h3
              refine wp_region_futs s2 (by kernel_rfl) (lexOf lexRCheck13 (by kernel_rfl)) ?_
              repeat (go_big_quiet_step (fail))
              refine wpQuiet_nil ?_
              intro s3
              go_wp2
              go_ret
              exact ⟨ret_int (check_ev hlong hlt (by rw [HADR.out]; exact rev_c HEN.out hkK (.inr h3) H1.out)), HE1.out (s.up hbx1 s3)⟩
            · have qa : decide (e.hart < 0) = false := decide_eq_false (by omega)
              have qb : decide (3 < e.hart) = false := decide_eq_false (by omega)
              refine wp_region_futs s2 (by kernel_rfl) (lexOf lexRCheck13 (by kernel_rfl)) ?_
              repeat (go_big_quiet_step (fail))
              refine wpQuiet_nil ?_
              intro s3
              go_wp2
              go_roundw
              case rel => exact ⟨k + 1, by omega, by go_num, by rw [evsTo_succ, HT.out, HADR.out, rev_e HEN.out HKE.out HK5.out h0 h3 H1.out]; rfl, s.up hbx1 s3, rfl⟩
              case measure => simp [intOf]; omega
          · have q106 : decide (adr.length < k) = true := decide_eq_true (by omega)
            have q106' : decide ((adr.length : Int) < (k : Int)) = true := decide_eq_true (by omega)
            have hp1 : ∀ t : Fut W1, t.val.cell? ⟨be, oe + (k - 1) * 13, none⟩ = some (.int .i64 (x.evs[k - 1]?.getD zev).hart) := fun t => ((hev t).at (k - 1) (by omega)).c0
            obtain ⟨p, hp⟩ : ∃ p, p = x.evs[k - 1]?.getD zev := ⟨_, rfl⟩
            rw [← hp] at hp1
            have HP := Lib.hid hp
            have hn1 : 1 ≤ k := by omega
            clear hp
            rcases (show e.hart < 0 ∨ (0 ≤ e.hart ∧ 3 < e.hart) ∨ (0 ≤ e.hart ∧ e.hart ≤ 3) by omega) with h0 | ⟨h0, h3⟩ | ⟨h0, h3⟩
            · have qa : decide (e.hart < 0) = true := decide_eq_true h0
              refine wp_region_futs s2 (by kernel_rfl) (lexOf lexRCheck13 (by kernel_rfl)) ?_
              repeat (go_big_quiet_step (fail))
              refine wpQuiet_nil ?_
              intro s3
              go_wp2
              go_ret
              exact ⟨ret_int (check_ev hlong hlt (by rw [HADR.out]; exact rev_c HEN.out hkK (.inl h0) H1.out)), HE1.out (s.up hbx1 s3)⟩
            · have qa : decide (e.hart < 0) = false := decide_eq_false (by omega)
              have qb : decide (3 < e.hart) = true := decide_eq_true h3
              refine wp_region_futs s2 (by kernel_rfl) (lexOf lexRCheck13 (by kernel_rfl)) ?_
              repeat (go_big_quiet_step (fail))
              refine wpQuiet_nil ?_
              intro s3
              go_wp2
              go_ret
              exact ⟨ret_int (check_ev hlong hlt (by rw [HADR.out]; exact rev_c HEN.out hkK (.inr h3) H1.out)), HE1.out (s.up hbx1 s3)⟩
            · have qa : decide (e.hart < 0) = false := decide_eq_false (by omega)
              have qb : decide (3 < e.hart) = false := decide_eq_false (by omega)
              refine wp_region_futs s2 (by kernel_rfl) (lexOf lexRCheck13 (by kernel_rfl)) ?_
              repeat (go_big_quiet_step (fail))
              refine wpQuiet_nil ?_
              intro s3
              generalize hbb : (decide (e.hart < p.hart)) = bb
              have HBB := Lib.hid hbb
              clear hbb
              cases bb
              case true =>
                go_wp2
                go_ret
                exact ⟨ret_int (check_ev hlong hlt (by rw [HADR.out]; exact (rev_f HEN.out HP.out (by omega) HK5.out h0 h3 H1.out).trans (by rw [HBB.out]; rfl))), HE1.out (s.up hbx1 s3)⟩
              case false =>
                go_wp2
                go_roundw
                case rel => exact ⟨k + 1, by omega, by go_num, by rw [evsTo_succ, HT.out, HADR.out, (rev_f HEN.out HP.out (by omega) HK5.out h0 h3 H1.out), HBB.out]; rfl, s.up hbx1 s3, rfl⟩
                case measure => simp [intOf]; omega
    · have hke : k = x.evs.length := by omega
      subst hke
      have hrest := check_rest hlong HT.out
      rw [HADR.out] at hrest
      have HR := Lib.hid hrest
      have d0 := c0 s
      have d1 := c1 s
      have d2 := c2 s
      clear hrest
      by_cases hlen2 : x.src.length = x.evs.length
      case neg =>
        have q0 : ((x.src.length : Int) == x.evs.length) = false := by simp; omega
        have q1 : ((x.src.length : Int) != x.evs.length) = true := by simp; omega
        go_wp2
        go_ret
        exact ⟨ret_int (by rw [HR.out]; simp [srcB, hlen2]), HE1.out s⟩
      have q0 : ((x.src.length : Int) == x.evs.length) = true := by simp; omega
      have q1 : ((x.src.length : Int) != x.evs.length) = false := by simp; omega
      have HLEN := Lib.hid hlen2
      clear hlen2
      go_wp2
      go_loopw [9] (fun i wr => ∃ k : Nat, k ≤ x.evs.length ∧ i = .int .i64 k ∧ srcTo x k = true ∧ ∃ s : Fut w1, wr = s.val) (fun i _ => x.evs.length - (intOf i).toNat)
      case atStart => exact ⟨0, Nat.zero_le _, rfl, rfl, s, rfl⟩
      case round =>
        clear d0 d1 d2
        obtain ⟨k, hk, rfl, hT2, s, rfl⟩ := hrel
        have HT2 := Lib.hid hT2
        clear hT2
        by_cases hlt : k < x.evs.length
        · have hkf : k < x.src.length := by have := HLEN.out; omega
          obtain ⟨bf, of, rfl, hcf⟩ := (hf2.fut s).2 (by omega)
          obtain ⟨be, oe, rfl, _⟩ := he1.2 (by omega)
          obtain ⟨f, hff⟩ : ∃ f, f = x.src[k]?.getD 0 := ⟨_, rfl⟩
          obtain ⟨e, hen⟩ : ∃ e, e = x.evs[k]?.getD zev := ⟨_, rfl⟩
          have hck := hcf k hkf
          rw [← hff] at hck
          have hE := he1.at k hlt
          rw [← hen] at hE
          obtain ⟨Aa', ca', Ad, cd, Ac, cc, f0, f1, f2, f3, f4, f5, f6, f7, f8, f9, f10, f11, f12, ia, id_, ic⟩ := hE.facts
          have HFF := Lib.hid hff
          have HEN := Lib.hid hen
          have g0 := f0 s
          have g1 := f1 s
          have g2 := f2 s
          have g3 := f3 s
          have g4 := f4 s
          have g5 := f5 s
          have g6 := f6 s
          have g7 := f7 s
          have g8 := f8 s
          have g9 := f9 s
          have g10 := f10 s
          have g11 := f11 s
          have g12 := f12 s
          have d0 := c0 s
          have d1 := c1 s
          clear hff hen hcf hE
          go_upto_region 20 with (fail)
          go_region_held3 (fun w' => w'.cell? ⟨w.heap.size, 0, none⟩ = some (.slice (some ⟨be, oe, none⟩) x.evs.length ce) ∧ w'.cell? ⟨w.heap.size, 1, none⟩ = some (.slice (some ⟨bf, of, none⟩) x.src.length cf) ∧ w'.cell? ⟨bf, of + k, none⟩ = some (.int .i64 f) ∧ w'.cell? ⟨be, oe + k * 13, none⟩ = some (.int .i64 e.hart) ∧ w'.cell? ⟨be, oe + k * 13 + 1, none⟩ = some (.int .i64 e.kind) ∧ w'.cell? ⟨be, oe + k * 13 + 2, none⟩ = some (.int .u32 e.addr) ∧ w'.cell? ⟨be, oe + k * 13 + 3, none⟩ = some (.int .u32 e.value) ∧ w'.cell? ⟨be, oe + k * 13 + 4, none⟩ = some (.int .u32 e.readv) ∧ w'.cell? ⟨be, oe + k * 13 + 5, none⟩ = some (.bool e.aq) ∧ w'.cell? ⟨be, oe + k * 13 + 6, none⟩ = some (.bool e.rl) ∧ w'.cell? ⟨be, oe + k * 13 + 7, none⟩ = some (.int .i64 e.pred) ∧ w'.cell? ⟨be, oe + k * 13 + 8, none⟩ = some (.int .i64 e.succ) ∧ w'.cell? ⟨be, oe + k * 13 + 9, none⟩ = some (.bool e.resv) ∧ w'.cell? ⟨be, oe + k * 13 + 10, none⟩ = some (.slice Aa' e.addrs.length ca') ∧ w'.cell? ⟨be, oe + k * 13 + 11, none⟩ = some (.slice Ad e.datas.length cd) ∧ w'.cell? ⟨be, oe + k * 13 + 12, none⟩ = some (.slice Ac e.ctrls.length cc))
            (first | go_keep | (exact ⟨cell_new _ d0, cell_new _ d1, cell_new _ hck, cell_new _ g0, cell_new _ g1, cell_new _ g2, cell_new _ g3, cell_new _ g4, cell_new _ g5, cell_new _ g6, cell_new _ g7, cell_new _ g8, cell_new _ g9, cell_new _ g10, cell_new _ g11, cell_new _ g12⟩))
            (first | (fail))
          obtain ⟨W2, s1, hW2, hbx1, hsz1, v0, v1, v2, v3, v4, v5, v6, v7, v8, v9, v10, v11, v12⟩ := box13 s.val 42 (.int .i64 e.hart) (.int .i64 e.kind) (.int .u32 e.addr) (.int .u32 e.value) (.int .u32 e.readv) (.bool e.aq) (.bool e.rl) (.int .i64 e.pred) (.int .i64 e.succ) (.bool e.resv) (.slice Aa' e.addrs.length ca') (.slice Ad e.datas.length cd) (.slice Ac e.ctrls.length cc)
          rw [hW2]
          obtain ⟨s1', hs1'⟩ : ∃ s1' : Fut W2, s1.val.drew = s1'.val := ⟨⟨_, s1.below.drew⟩, rfl⟩
          rw [hs1']
          clear hW2 hs1' s1 f0 f1 f2 f3 f4 f5 f6 f7 f8 f9 f10 f11 f12 g0 g1 g2 g3 g4 g5 g6 g7 g8 g9 g10 g11 g12 d0 d1 hck
          have b0' : ∀ t : Fut W2, t.val.cell? ⟨w.heap.size, 0, none⟩ = some (.slice (some ⟨be, oe, none⟩) x.evs.length ce) := fun t => c0 (s.up hbx1 t)
          have b1' : ∀ t : Fut W2, t.val.cell? ⟨w.heap.size, 1, none⟩ = some (.slice (some ⟨bf, of, none⟩) x.src.length cf) := fun t => c1 (s.up hbx1 t)
          have b2' : ∀ t : Fut W2, t.val.cell? ⟨w.heap.size, 2, none⟩ = some (.slice Ao x.order.length co) := fun t => c2 (s.up hbx1 t)
          have hev : ∀ t : Fut W2, Evs t.val (some ⟨be, oe, none⟩) x.evs := fun t => he1.fut (s.up hbx1 t)
          clear ia id_ ic
          have y0 := v0 s1'
          have y1 := v1 s1'
          have y2 := v2 s1'
          have y3 := v3 s1'
          have y4 := v4 s1'
          have y5 := v5 s1'
          have y6 := v6 s1'
          have y7 := v7 s1'
          have y8 := v8 s1'
          have y9 := v9 s1'
          have y10 := v10 s1'
          have y11 := v11 s1'
          have y12 := v12 s1'
          go_wp2_with fail
          refine (rloads_any _ _ _ _ _ _ _ _ _ _ _ _ _ _).mono ?_
          rintro er w3 ⟨rfl, hb3⟩
          obtain ⟨s2, rfl⟩ : ∃ s2 : Fut W2, w3 = s2.val := ⟨⟨w3, s1'.below.trans (hb3.mono s1'.below.size)⟩, rfl⟩
          clear y0 y1 y2 y3 y4 y5 y6 y7 y8 y9 y10 y11 y12
          generalize hbl : (e.kind == 1 || e.kind == 3) = bl
          have HBL := Lib.hid hbl
          clear hbl
          cases bl
          case false =>
            have hsrc : srcOk x k f = (f == -1) := by rw [src_eq HEN.out, HBL.out]; rfl
            have HSRC := Lib.hid hsrc
            clear hsrc
            by_cases hf1 : f = -1
            · have r0 : (f == -1) = true := by simp [hf1]
              have r1 : (f != -1) = false := by simp [hf1]
              have HF1 := Lib.hid hf1
              clear hf1
              go_wp2
              go_roundw
              case rel => exact ⟨k + 1, by omega, by go_num, from_yes HT2.out HFF.out (by rw [HSRC.out, HF1.out]; rfl), s.up hbx1 s2, rfl⟩
              case measure => simp [intOf]; omega
            · have r0 : (f == -1) = false := by simp [hf1]
              have r1 : (f != -1) = true := by simp [hf1]
              go_wp2
              go_ret
              exact ⟨ret_int (by rw [HR.out, from_no hlt HFF.out (by rw [HSRC.out, r0])]; rfl), HE1.out (s.up hbx1 s2)⟩
          have hl1 : (!e.kind == 1 && !e.kind == 3 && f == -1) = false := by
            have := HBL.out
            cases h1 : e.kind == 1 <;> cases h3 : e.kind == 3 <;> simp_all
          have HL1 := Lib.hid hl1
          clear hl1
          rcases (show f < 0 ∨ (0 ≤ f ∧ (x.evs.length : Int) ≤ f) ∨ (0 ≤ f ∧ f < x.evs.length) by omega) with z1 | ⟨z1, z2⟩ | ⟨z1, z2⟩
          · have r0 : decide (f < 0) = true := decide_eq_true z1
            go_upto_region 24 with (fail)
            refine wp_region_futs s2 (by kernel_rfl) (lexOf lexRCheck24 (by kernel_rfl)) ?_
            repeat (go_big_quiet_step (fail))
            refine wpQuiet_nil ?_
            intro s3
            go_wp2
            go_ret
            exact ⟨ret_int (by rw [HR.out, from_no hlt HFF.out (from8a HEN.out z1 HL1.out)]; rfl), HE1.out (s.up hbx1 s3)⟩
          · have r0 : decide (f < 0) = false := decide_eq_false (by omega)
            have r1 : decide ((x.evs.length : Int) ≤ f) = true := decide_eq_true z2
            go_upto_region 24 with (fail)
            refine wp_region_futs s2 (by kernel_rfl) (lexOf lexRCheck24 (by kernel_rfl)) ?_
            repeat (go_big_quiet_step (fail))
            refine wpQuiet_nil ?_
            intro s3
            go_wp2
            go_ret
            exact ⟨ret_int (by rw [HR.out, from_no hlt HFF.out (from8b HEN.out z1 z2 HL1.out)]; rfl), HE1.out (s.up hbx1 s3)⟩
          · have r0 : decide (f < 0) = false := decide_eq_false (by omega)
            have r1 : decide ((x.evs.length : Int) ≤ f) = false := decide_eq_false (by omega)
            obtain ⟨m, rfl⟩ := Int.eq_ofNat_of_zero_le z1
            have hm : m < x.evs.length := by omega
            have hG : ∀ t : Fut W2, EvAt t.val be (oe + m * 13) (x.evs[m]?.getD zev) := fun t => (hev t).at m hm
            obtain ⟨g, hgg⟩ : ∃ g, g = x.evs[m]?.getD zev := ⟨_, rfl⟩
            rw [← hgg] at hG
            have HG := Lib.hid hgg
            have hG2 := he1.below (s.below)
            obtain ⟨A1, k1, A2, k2, A3, k3, m0, m1, m2, m3, m4, m5, m6, m7, m8, m9, m10, m11, m12, _, _, _⟩ := (HG.out ▸ (((he1.fut s).below hbx1).at m hm) : EvAt W2 be (oe + m * 13) g).facts
            clear hG hG2 hgg
            go_upto_region 24 with (fail)
            refine wp_region_futs s2 (by kernel_rfl) (lexOf lexRCheck24 (by kernel_rfl)) ?_
            repeat (first
              | (refine wpQuiet_or rfl rfl rfl rfl ?_; simp only [Act.put, List.setIfInBounds_toArray, List.set_cons_succ, List.set_cons_zero])
              | (refine wpQuiet_and rfl rfl rfl rfl ?_; simp only [Act.put, List.setIfInBounds_toArray, List.set_cons_succ, List.set_cons_zero])
              | go_big_quiet_skip
              | (go_big_quiet_want; go_big_quiet_op; first | go_big_quiet_on | go_big_quiet_call (((go_at_call 65; exact fut_callS _ (rstores_any _ _ _ _ _ _ _ _ _ _ _ _ _ _)))))
              | (refine wpQuiet_dead (by first | exact wanted_t rfl rfl rfl | exact wanted_f rfl rfl rfl | exact wanted_ts rfl rfl rfl | exact wanted_fs rfl rfl rfl) rfl (of_decide_eq_true rfl) (by simp only [Bool.not_true, Bool.and_false, Bool.false_and, Bool.or_true, Bool.true_or]) ?_; simp only [Act.put, List.setIfInBounds_toArray, List.set_cons_succ, List.set_cons_zero])
              | (refine wpQuiet_or_und rfl (by first | exact wanted_t rfl rfl rfl | exact wanted_f rfl rfl rfl | exact wanted_ts rfl rfl rfl | exact wanted_fs rfl rfl rfl) rfl (of_decide_eq_true rfl) rfl rfl ?_; simp only [Act.put, List.setIfInBounds_toArray, List.set_cons_succ, List.set_cons_zero])
              | (refine wpQuiet_and_und rfl (by first | exact wanted_t rfl rfl rfl | exact wanted_f rfl rfl rfl | exact wanted_ts rfl rfl rfl | exact wanted_fs rfl rfl rfl) rfl (of_decide_eq_true rfl) rfl rfl ?_; simp only [Act.put, List.setIfInBounds_toArray, List.set_cons_succ, List.set_cons_zero])
              | (refine wpQuiet_und (by first | exact wanted_t rfl rfl rfl | exact wanted_f rfl rfl rfl | exact wanted_ts rfl rfl rfl | exact wanted_fs rfl rfl rfl) rfl (of_decide_eq_true rfl) ?_
                 apply Exists.intro
                 refine ⟨fun hb => ?_, ?_⟩
                 · (skip)
                   (try simp only [sel_of hb])
                   (try (have hb1 := and_l hb; (try simp only [sel_of hb1]); (try (have hb2 := and_l hb1; (try simp only [sel_of hb2]); (try (have hb3 := and_l hb2; (try simp only [sel_of hb3])))))))
                   go_big_quiet_op
                   first | ((show Act.eval _ (Operand.tmp _) = _); conv => (lhs; whnf)) | (apply Exists.intro; refine ⟨fun _ => ?_, ?_⟩; (focus ((go_at_call 65; exact fut_callS _ (rstores_any _ _ _ _ _ _ _ _ _ _ _ _ _ _)))); ((show Act.eval _ (Operand.tmp _) = _); conv => (lhs; whnf)))
                 simp only [Act.put, List.setIfInBounds_toArray, List.set_cons_succ, List.set_cons_zero]))
            refine wpQuiet_nil ?_
            intro s3
            generalize hbb : (decide (x.evs.length ≤ m) || (m : Int) == (k : Int) || !g.kind == 2 && !g.kind == 3 && !g.kind == 5 || g.addr != e.addr || g.value != e.readv) = bb
            have H9 := Lib.hid (from9 HEN.out HG.out hm HBL.out hbb)
            clear hbb
            cases bb
            case true =>
              go_wp2
              go_ret
              exact ⟨ret_int (by rw [HR.out, from_no hlt HFF.out H9.out]; rfl), HE1.out (s.up hbx1 s3)⟩
            case false =>
              go_wp2
              go_roundw
              case rel => exact ⟨k + 1, by omega, by go_num, from_yes HT2.out HFF.out H9.out, s.up hbx1 s3, rfl⟩
              case measure => simp [intOf]; omega
        · obtain rfl : k = x.evs.length := by omega
          have hsrc := from_end HT2.out (by rw [HLEN.out]) HLEN.out
          have hR2 := HR.out
          rw [hsrc] at hR2
          have HR2 := Lib.hid (show checkV x = if !orderB x adr then 162 else 0 from hR2)
          clear hR2
          have d0 := c0 s
          have d1 := c1 s
          have d2 := c2 s
          by_cases hlo : x.order.length = adr.length
          case neg =>
            have q2 : ((x.order.length : Int) == adr.length) = false := by simp; omega
            have q3 : ((x.order.length : Int) != adr.length) = true := by simp; omega
            go_wp2
            go_ret
            exact ⟨ret_int (by rw [HR2.out]; simp [orderB, hlo]), HE1.out s⟩
          have q2 : ((x.order.length : Int) == adr.length) = true := by simp; omega
          have q3 : ((x.order.length : Int) != adr.length) = false := by simp; omega
          have HLO := Lib.hid hlo
          clear hlo
          go_wp2
          go_loopw [12] (fun i wr => ∃ a : Nat, a ≤ adr.length ∧ i = .int .i64 a ∧ orderTo x adr a = true ∧ ∃ s : Fut w1, wr = s.val) (fun i _ => adr.length - (intOf i).toNat)
          case atStart => exact ⟨0, Nat.zero_le _, rfl, rfl, s, rfl⟩
          case round =>
            clear d0 d1 d2
            obtain ⟨a, ha, rfl, hT3, s, rfl⟩ := hrel
            have HT3 := Lib.hid hT3
            clear hT3
            by_cases hla : a < adr.length
            · have hao : a < x.order.length := by have := HLO.out; omega
              obtain ⟨bo, oo, rfl, hco⟩ := ho2.2 (by omega)
              obtain ⟨B, cB, hcl1, hIl⟩ := hco a hao
              obtain ⟨l, hl⟩ : ∃ l, x.order[a]?.getD [] = l := ⟨_, rfl⟩
              rw [hl] at hcl1 hIl
              have hcl := s.cell hcl1
              have HL := Lib.hid hl
              have hl0 := hIl.1
              obtain ⟨ad, hadd⟩ : ∃ ad, adr[a]?.getD 0 = ad := ⟨_, rfl⟩
              have HAD := Lib.hid hadd
              have d0 := c0 s
              have d2 := c2 s
              clear hl hco hadd
              have HNE := Lib.hid (begin_stores HADR.out HT.out hlen hla)
              go_wp2
              go_loopw [14, 15] (fun m i wr => ∃ n : Nat, n ≤ x.evs.length ∧ i = .int .i64 n ∧ allIn x ad l n = true ∧ m = .int .i64 ((storesTo x ad n).length : Nat) ∧ ∃ s : Fut w1, wr = s.val) (fun _ i _ => x.evs.length - (intOf i).toNat)
              case atStart => exact ⟨0, Nat.zero_le _, rfl, rfl, rfl, s, rfl⟩
              case round =>
                clear d0 d2 hcl
                obtain ⟨n, hn, rfl, hA, rfl, s, rfl⟩ := hrel
                have HA := Lib.hid hA
                have hsl := storesTo_len x ad n
                clear hA
                by_cases hnl : n < x.evs.length
                · obtain ⟨be, oe, rfl, _⟩ := he1.2 (by omega)
                  obtain ⟨e, hen⟩ : ∃ e, e = x.evs[n]?.getD zev := ⟨_, rfl⟩
                  have hE := he1.at n hnl
                  rw [← hen] at hE
                  obtain ⟨Aa', ca', Ad, cd, Ac, cc, f0, f1, f2, f3, f4, f5, f6, f7, f8, f9, f10, f11, f12, ia, id_, ic⟩ := hE.facts
                  have HEN := Lib.hid hen
                  obtain ⟨ba, oa, rfl, hca⟩ := hua.2 (by omega)
                  have hcad := hca a hla
                  rw [HAD.out] at hcad
                  have had' : ∀ t : Fut w1, t.val.cell? ⟨ba, oa + a, none⟩ = some (.int .u32 ad) := fun t => t.cell hcad
                  clear hen hE hca hcad ia id_ ic
                  go_upto_region 36 with (fail)
                  refine wp_region_futs s (by kernel_rfl) (lexOf lexRCheck36 (by kernel_rfl)) ?_
                  repeat (first
                    | (refine wpQuiet_or rfl rfl rfl rfl ?_; simp only [Act.put, List.setIfInBounds_toArray, List.set_cons_succ, List.set_cons_zero])
                    | (refine wpQuiet_and rfl rfl rfl rfl ?_; simp only [Act.put, List.setIfInBounds_toArray, List.set_cons_succ, List.set_cons_zero])
                    | go_big_quiet_skip
                    | (go_big_quiet_want; go_big_quiet_op; first | go_big_quiet_on | go_big_quiet_call (((go_at_call 65; exact fut_callS _ (rstores_any _ _ _ _ _ _ _ _ _ _ _ _ _ _)))))
                    | (refine wpQuiet_dead (by first | exact wanted_t rfl rfl rfl | exact wanted_f rfl rfl rfl | exact wanted_ts rfl rfl rfl | exact wanted_fs rfl rfl rfl) rfl (of_decide_eq_true rfl) (by simp only [Bool.not_true, Bool.and_false, Bool.false_and, Bool.or_true, Bool.true_or]) ?_; simp only [Act.put, List.setIfInBounds_toArray, List.set_cons_succ, List.set_cons_zero])
                    | (refine wpQuiet_or_und rfl (by first | exact wanted_t rfl rfl rfl | exact wanted_f rfl rfl rfl | exact wanted_ts rfl rfl rfl | exact wanted_fs rfl rfl rfl) rfl (of_decide_eq_true rfl) rfl rfl ?_; simp only [Act.put, List.setIfInBounds_toArray, List.set_cons_succ, List.set_cons_zero])
                    | (refine wpQuiet_and_und rfl (by first | exact wanted_t rfl rfl rfl | exact wanted_f rfl rfl rfl | exact wanted_ts rfl rfl rfl | exact wanted_fs rfl rfl rfl) rfl (of_decide_eq_true rfl) rfl rfl ?_; simp only [Act.put, List.setIfInBounds_toArray, List.set_cons_succ, List.set_cons_zero])
                    | (refine wpQuiet_und (by first | exact wanted_t rfl rfl rfl | exact wanted_f rfl rfl rfl | exact wanted_ts rfl rfl rfl | exact wanted_fs rfl rfl rfl) rfl (of_decide_eq_true rfl) ?_
                       apply Exists.intro
                       refine ⟨fun hb => ?_, ?_⟩
                       · (skip)
                         (try simp only [sel_of hb])
                         (try (have hb1 := and_l hb; (try simp only [sel_of hb1]); (try (have hb2 := and_l hb1; (try simp only [sel_of hb2]); (try (have hb3 := and_l hb2; (try simp only [sel_of hb3])))))))
                         go_big_quiet_op
                         first | ((show Act.eval _ (Operand.tmp _) = _); conv => (lhs; whnf)) | (apply Exists.intro; refine ⟨fun _ => ?_, ?_⟩; (focus ((go_at_call 65; exact fut_callS _ (rstores_any _ _ _ _ _ _ _ _ _ _ _ _ _ _)))); ((show Act.eval _ (Operand.tmp _) = _); conv => (lhs; whnf)))
                       simp only [Act.put, List.setIfInBounds_toArray, List.set_cons_succ, List.set_cons_zero]))
                  refine wpQuiet_nil ?_
                  intro s3
                  generalize hbb : ((e.kind == 2 || e.kind == 3 || e.kind == 5) && e.addr == ad) = bb
                  have HBB := Lib.hid hbb
                  clear hbb f0 f1 f2 f3 f4 f5 f6 f7 f8 f9 f10 f11 f12
                  cases bb
                  case false =>
                    go_wp2
                    go_roundw
                    case rel => exact ⟨n + 1, by omega, by go_num, allIn_next HEN.out HA.out (.inl HBB.out), by rw [storesTo_no HEN.out HBB.out], s3, rfl⟩
                    case measure => simp [intOf]; omega
                  case true =>
                    have hIs := hIl.fut s3
                    have hat := at_any l B cB (n : Int) s3.val hIs
                    generalize hav : atV l (n : Int) = av at hat
                    have HAT := Lib.hid hat
                    have HAV := Lib.hid hav
                    clear hav hat hIs
                    by_cases hneg : av < 0
                    · have qn : decide (av < 0) = true := decide_eq_true hneg
                      go_wp2_with (go_at_call 66; refine HAT.out.mono ?_; rintro e' w' ⟨rfl, rfl⟩)
                      go_ret
                      exact ⟨ret_int (by rw [HR2.out, order_no hla HL.out.symm (ref_no1 HNE.out HAD.out hnl HEN.out HBB.out (by rw [HAV.out]; exact hneg))]; rfl), HE1.out s3⟩
                    · have qn : decide (av < 0) = false := decide_eq_false hneg
                      go_wp2_with (go_at_call 66; refine HAT.out.mono ?_; rintro e' w' ⟨rfl, rfl⟩)
                      go_roundw
                      case rel => exact ⟨n + 1, by omega, by go_num, allIn_next HEN.out HA.out (.inr (by rw [HAV.out]; omega)), by rw [storesTo_yes HEN.out HBB.out]; simp, s3, rfl⟩
                      case measure => simp [intOf]; omega
                · obtain rfl : n = x.evs.length := by omega
                  have hend := Lib.hid (ref_end HNE.out HAD.out HA.out)
                  generalize hM : (storesTo x ad x.evs.length).length = M at *
                  by_cases hlm : l.length = M
                  case neg =>
                    have q4 : ((l.length : Int) == (M : Int)) = false := by simp; omega
                    have q5 : ((l.length : Int) != (M : Int)) = true := by simp; omega
                    go_wp2
                    go_ret
                    exact ⟨ret_int (by rw [HR2.out, order_no hla HL.out.symm (by rw [hend.out]; simp [hlm])]; rfl), HE1.out s⟩
                  have q4 : ((l.length : Int) == (M : Int)) = true := by simp; omega
                  have q5 : ((l.length : Int) != (M : Int)) = false := by simp; omega
                  have hM0 : 0 < M := by
                    have := HNE.out
                    rw [List.getD_eq_getElem?_getD, HAD.out] at this
                    rw [← hM]; exact this
                  obtain ⟨bl, ol, rfl, hcl2⟩ := hIl.2 (by omega)
                  have hc0 := s.cell (hcl2 0 (by omega))
                  obtain ⟨f, hf⟩ : ∃ f, l[0]?.getD 0 = f := ⟨_, rfl⟩
                  rw [hf, Nat.add_zero] at hc0
                  have HF := Lib.hid hf
                  have HLM := Lib.hid hlm
                  have hlpos : 0 < l.length := by omega
                  clear hf hlm hcl2 hM
                  by_cases hfa : f = (a : Int)
                  · have q6 : (f == (a : Int)) = true := by simp [hfa]
                    have q7 : (f != (a : Int)) = false := by simp [hfa]
                    have HFA := Lib.hid hfa
                    clear hfa
                    go_wp2
                    go_roundw
                    case rel => exact ⟨a + 1, by omega, by go_num, order_yes HT3.out HL.out.symm (by rw [hend.out, HF.out, HLM.out, HFA.out]; simp), s, rfl⟩
                    case measure => simp [intOf]; omega
                  · have q6 : (f == (a : Int)) = false := by simp [hfa]
                    have q7 : (f != (a : Int)) = true := by simp [hfa]
                    go_wp2
                    go_ret
                    exact ⟨ret_int (by rw [HR2.out, order_no hla HL.out.symm (by rw [hend.out, HF.out]; simp [hfa])]; rfl), HE1.out s⟩
            · obtain rfl : a = adr.length := by omega
              have d0 := c0 s
              go_wp2
              go_ret
              exact ⟨ret_int (by rw [HR2.out, order_end (by rw [HLO.out]; exact HT3.out) HLO.out]; rfl), HE1.out s⟩
end Go.Proofs.YtacnbdnmkmpldaaGreat
