/- events.from: may From be? -/
import Derived.Test.YtacnbdnmkmpldaaGreatEvC
namespace Go.Proofs.YtacnbdnmkmpldaaGreat
open Go.RowKit Q
set_option linter.unusedSimpArgs false
set_option linter.unusedVariables false

def srcTo (x : Ex) (k : Nat) : Bool := (List.range k).all fun n => srcOk x n (x.src.getD n 0)
theorem srcTo_succ (x : Ex) (k : Nat) : srcTo x (k + 1) = (srcTo x k && srcOk x k (x.src.getD k 0)) := by
  simp [srcTo, List.range_succ, List.all_append]
theorem all_range_false {p : Nat → Bool} {k n : Nat} (hk : k < n) (h : p k = false) : (List.range n).all p = false := by
  rw [Bool.eq_false_iff]
  intro hall
  have := List.all_eq_true.1 hall k (List.mem_range.2 hk)
  rw [h] at this; cases this
theorem from_no {x : Ex} {k : Nat} {f : Int} (hk : k < x.evs.length) (hf : f = x.src[k]?.getD 0) (h : srcOk x k f = false) : srcB x = false := by
  unfold srcB
  rw [all_range_false hk (by rw [List.getD_eq_getElem?_getD, ← hf]; exact h)]; simp
theorem from_yes {x : Ex} {k : Nat} {f : Int} (hT : srcTo x k = true) (hf : f = x.src[k]?.getD 0) (h : srcOk x k f = true) : srcTo x (k + 1) = true := by
  rw [srcTo_succ, hT, List.getD_eq_getElem?_getD, ← hf, h]; rfl
theorem from_end {x : Ex} {k : Nat} (hT : srcTo x k = true) (hk : k = x.src.length) (hl : x.src.length = x.evs.length) : srcB x = true := by
  unfold srcB
  unfold srcTo at hT
  rw [hk, hl] at hT
  rw [hT, hl]; simp
theorem from7 {x : Ex} {k : Nat} {f : Int} {e : Ev} (he : e = x.evs[k]?.getD zev) (h : (!e.kind == 1 && !e.kind == 3 && f == -1) = true) : srcOk x k f = true := by
  have hl : loads (ev x k) = false := by simp only [ev, List.getD_eq_getElem?_getD, ← he, loads]; cases h1 : e.kind == 1 <;> cases h3 : e.kind == 3 <;> simp_all
  unfold srcOk; rw [if_neg (by simp [hl])]; cases h1 : f == -1 <;> simp_all
theorem src_eq {x : Ex} {k : Nat} {f : Int} {e : Ev} (he : e = x.evs[k]?.getD zev) : srcOk x k f = (if (e.kind == 1 || e.kind == 3) = true then f != k && (decide (0 ≤ f) && (decide (f < x.evs.length) && (stores (evI x f) && ((evI x f).addr == e.addr && (evI x f).value == e.readv)))) else f == -1) := by
  subst he; rfl
theorem from8a {x : Ex} {k : Nat} {f : Int} {e : Ev} (he : e = x.evs[k]?.getD zev) (h1 : f < 0) (h : (!e.kind == 1 && !e.kind == 3 && f == -1) = false) : srcOk x k f = false := by
  have d1 : decide (0 ≤ f) = false := decide_eq_false (by omega)
  rw [src_eq he, d1]
  clear d1 he
  cases a : e.kind == 1 <;> cases b : e.kind == 3 <;> simp_all
theorem from8b {x : Ex} {k : Nat} {f : Int} {e : Ev} (he : e = x.evs[k]?.getD zev) (h1 : 0 ≤ f) (h2 : (x.evs.length : Int) ≤ f) (h : (!e.kind == 1 && !e.kind == 3 && f == -1) = false) : srcOk x k f = false := by
  have d1 : decide (f < x.evs.length) = false := decide_eq_false (by omega)
  rw [src_eq he, d1]
  clear d1 he
  cases a : e.kind == 1 <;> cases b : e.kind == 3 <;> simp_all
theorem from8c {x : Ex} {k : Nat} {f : Int} {e g : Ev} {b82 : Bool} (he : e = x.evs[k]?.getD zev) (hg : g = x.evs[f.toNat]?.getD zev) (h1 : 0 ≤ f) (h2 : f < x.evs.length) (h : (!e.kind == 1 && !e.kind == 3 && f == -1) = false)
    (hb : (!e.kind == 1 && !e.kind == 3 || f == (k : Int) || false || false || !g.kind == 2 && !g.kind == 3 && !g.kind == 5 || g.addr != e.addr || g.value != e.readv) = b82) : srcOk x k f = !b82 := by
  have d1 : decide (0 ≤ f) = true := decide_eq_true h1
  have d2 : decide (f < x.evs.length) = true := decide_eq_true h2
  have hgg : evI x f = g := by rw [hg]; rfl
  have d3 : (f == -1) = false := by simp; omega
  rw [src_eq he, hgg, ← hb]
  simp only [d1, d2, d3, stores]
  clear d1 d2 d3 hgg he hg hb h1 h2 h
  cases a : e.kind == 1 <;> cases b : e.kind == 3 <;> cases c : g.kind == 2 <;> cases d : g.kind == 3 <;> cases f' : g.kind == 5 <;> cases m : f == (k : Int) <;> simp_all [bne]

set_option maxRecDepth 100000 in
set_option maxHeartbeats 4000000 in
theorem from_any (x : Ex) (Ae Af : Option Addr) (ce cf : Nat) (Vo : Value) (w : World) (he : Evs w Ae x.evs) (hf : Ints w Af x.src) :
    Calls Tryz.prog 90 #[.agg #[.slice Ae x.evs.length ce, .slice Af x.src.length cf, Vo]] w fun r w' =>
      r = .returned (.bool (srcB x)) ∧ Below w.heap.size w w' := by
  have hl0 := hf.1
  have hx0 := he.1
  by_cases hlen : x.src.length = x.evs.length
  case neg =>
    have q0 : ((x.src.length : Int) == x.evs.length) = false := by simp; omega
    have q1 : ((x.src.length : Int) != x.evs.length) = true := by simp; omega
    go_enter Tryz.func90, Tryz.ntmps90
    go_wp2
    go_ret
    exact ⟨ret_bool (by simp [srcB, hlen]), (Below.refl _ _).alloc (Nat.le_refl _) _⟩
  have q0 : ((x.src.length : Int) == x.evs.length) = true := by simp; omega
  have q1 : ((x.src.length : Int) != x.evs.length) = false := by simp; omega
  have HLEN := Lib.hid hlen
  clear hlen
  go_enter Tryz.func90, Tryz.ntmps90
  go_upto_region 1 with (fail)
  obtain ⟨W0, s0, hW0, hbx, hsz, b0, b1, b2⟩ := box3 w 26 (.slice Ae x.evs.length ce) (.slice Af x.src.length cf) Vo
  rw [hW0]
  clear hW0
  have he0 := he.below hbx
  have hf0 := hf.below hbx
  clear he hf
  have hend : ∀ s : Fut W0, Below w.heap.size w s.val := fun s => hbx.trans (s.below.mono (Nat.le_of_lt hsz))
  have HEND := Lib.hid hend
  clear hend
  go_wp2
  go_loopw [16] (fun i wr => ∃ k : Nat, k ≤ x.src.length ∧ i = .int .i64 k ∧ srcTo x k = true ∧ ∃ s : Fut W0, wr = s.val) (fun i _ => x.src.length - (intOf i).toNat)
  case atStart => exact ⟨0, Nat.zero_le _, rfl, rfl, s0, rfl⟩
  case round =>
    obtain ⟨k, hk, rfl, hT, s, rfl⟩ := hrel
    have HT := Lib.hid hT
    clear hT
    by_cases hlt : k < x.src.length
    · have hke : k < x.evs.length := by have := HLEN.out; omega
      obtain ⟨bf, of, rfl, hcf⟩ := hf0.2 (by omega)
      obtain ⟨be, oe, rfl, _⟩ := he0.2 (by omega)
      obtain ⟨f, hff⟩ : ∃ f, f = x.src[k]?.getD 0 := ⟨_, rfl⟩
      obtain ⟨e, hen⟩ : ∃ e, e = x.evs[k]?.getD zev := ⟨_, rfl⟩
      have hck := fun t : Fut W0 => t.cell (hcf k hlt)
      rw [← hff] at hck
      have hE := he0.at k hke
      rw [← hen] at hE
      obtain ⟨Aa', ca', Ad, cd, Ac, cc, f0, f1, f2, f3, f4, f5, f6, f7, f8, f9, f10, f11, f12, ia, id_, ic⟩ := hE.facts
      have HFF := Lib.hid hff
      have HEN := Lib.hid hen
      clear hff hen hcf hE
      go_upto_region 7 with (fail)
      obtain ⟨W1, s1, hW1, hbx1, hsz1, c0, c1, c2, c3, c4, c5, c6, c7, c8, c9, c10, c11, c12⟩ := box13 s.val 42 (.int .i64 e.hart) (.int .i64 e.kind) (.int .u32 e.addr) (.int .u32 e.value) (.int .u32 e.readv) (.bool e.aq) (.bool e.rl) (.int .i64 e.pred) (.int .i64 e.succ) (.bool e.resv) (.slice Aa' e.addrs.length ca') (.slice Ad e.datas.length cd) (.slice Ac e.ctrls.length cc)
      rw [hW1]
      have b0' : ∀ t : Fut W1, t.val.cell? ⟨w.heap.size, 0, none⟩ = some (.slice (some ⟨be, oe, none⟩) x.evs.length ce) := fun t => b0 (s.up hbx1 t)
      have he1 : ∀ t : Fut W1, Evs t.val (some ⟨be, oe, none⟩) x.evs := fun t => he0.fut (s.up hbx1 t)
      clear hW1 f0 f1 f2 f3 f4 f5 f6 f7 f8 f9 f10 f11 f12 b0 b1 b2 hck
      refine wp_region_futps s1 ?_
      repeat (first
        | (refine wpQuiet_or rfl rfl rfl rfl ?_; simp only [Act.put, List.setIfInBounds_toArray, List.set_cons_succ, List.set_cons_zero])
        | (refine wpQuiet_and rfl rfl rfl rfl ?_; simp only [Act.put, List.setIfInBounds_toArray, List.set_cons_succ, List.set_cons_zero])
        | go_big_quiet_skip
        | (go_big_quiet_want; go_big_quiet_op; first | go_big_quiet_on | go_big_quiet_call ((go_at_call 104; exact fut_callS _ (loads_any _ _ _ _ _ _ _ _ _ _ _ _ _ _))))
        | (refine wpQuiet_dead (by first | exact wanted_t rfl rfl rfl | exact wanted_f rfl rfl rfl | exact wanted_ts rfl rfl rfl | exact wanted_fs rfl rfl rfl) rfl (of_decide_eq_true rfl) (by simp only [Bool.not_true, Bool.and_false, Bool.false_and, Bool.or_true, Bool.true_or]) ?_; simp only [Act.put, List.setIfInBounds_toArray, List.set_cons_succ, List.set_cons_zero])
        | (refine wpQuiet_or_und rfl (by first | exact wanted_t rfl rfl rfl | exact wanted_f rfl rfl rfl | exact wanted_ts rfl rfl rfl | exact wanted_fs rfl rfl rfl) rfl (of_decide_eq_true rfl) rfl rfl ?_; simp only [Act.put, List.setIfInBounds_toArray, List.set_cons_succ, List.set_cons_zero])
        | (refine wpQuiet_and_und rfl (by first | exact wanted_t rfl rfl rfl | exact wanted_f rfl rfl rfl | exact wanted_ts rfl rfl rfl | exact wanted_fs rfl rfl rfl) rfl (of_decide_eq_true rfl) rfl rfl ?_; simp only [Act.put, List.setIfInBounds_toArray, List.set_cons_succ, List.set_cons_zero])
        | (refine wpQuiet_und (by first | exact wanted_t rfl rfl rfl | exact wanted_f rfl rfl rfl | exact wanted_ts rfl rfl rfl | exact wanted_fs rfl rfl rfl) rfl (of_decide_eq_true rfl) ?_
           apply Exists.intro
           refine ⟨fun hb => ?_, ?_⟩
           · (skip)
             (try simp only [sel_of hb])
             (try (have hb1 := and_l hb; (try simp only [sel_of hb1]); (try (have hb2 := and_l hb1; (try simp only [sel_of hb2]); (try (have hb3 := and_l hb2; (try simp only [sel_of hb3])))))))
             go_big_quiet_op
             first | ((show Act.eval _ (Operand.tmp _) = _); conv => (lhs; whnf)) | (apply Exists.intro; refine ⟨fun _ => ?_, ?_⟩; (focus (go_at_call 104; exact fut_callS _ (loads_any _ _ _ _ _ _ _ _ _ _ _ _ _ _))); ((show Act.eval _ (Operand.tmp _) = _); conv => (lhs; whnf)))
           simp only [Act.put, List.setIfInBounds_toArray, List.set_cons_succ, List.set_cons_zero]))
      refine wpQuiet_nil ?_
      intro s2
      generalize h1 : (!e.kind == 1 && !e.kind == 3 && f == -1) = b32
      have H1 := Lib.hid h1
      clear h1
      cases b32
      case true =>
        go_wp2
        go_roundw
        case rel => exact ⟨k + 1, by omega, by go_num, from_yes HT.out HFF.out (from7 HEN.out H1.out), s.up hbx1 s2, rfl⟩
        case measure => simp [intOf]; omega
      rcases (show f < 0 ∨ (0 ≤ f ∧ (x.evs.length : Int) ≤ f) ∨ (0 ≤ f ∧ f < x.evs.length) by omega) with g1 | ⟨g1, g2⟩ | ⟨g1, g2⟩
      · have g3 : decide (f < 0) = true := decide_eq_true g1
        go_upto_region 8 with (fail)
        refine wp_region_futs s2 (by kernel_rfl) (lexOf lexFrom (by kernel_rfl)) ?_
        repeat (first
          | (refine wpQuiet_or rfl rfl rfl rfl ?_; simp only [Act.put, List.setIfInBounds_toArray, List.set_cons_succ, List.set_cons_zero])
          | (refine wpQuiet_and rfl rfl rfl rfl ?_; simp only [Act.put, List.setIfInBounds_toArray, List.set_cons_succ, List.set_cons_zero])
          | go_big_quiet_skip
          | (go_big_quiet_want; go_big_quiet_op; first | go_big_quiet_on | go_big_quiet_call ((go_at_call 104; exact fut_callS _ (loads_any _ _ _ _ _ _ _ _ _ _ _ _ _ _))))
          | (refine wpQuiet_dead (by first | exact wanted_t rfl rfl rfl | exact wanted_f rfl rfl rfl | exact wanted_ts rfl rfl rfl | exact wanted_fs rfl rfl rfl) rfl (of_decide_eq_true rfl) (by simp only [Bool.not_true, Bool.and_false, Bool.false_and, Bool.or_true, Bool.true_or]) ?_; simp only [Act.put, List.setIfInBounds_toArray, List.set_cons_succ, List.set_cons_zero])
          | (refine wpQuiet_or_und rfl (by first | exact wanted_t rfl rfl rfl | exact wanted_f rfl rfl rfl | exact wanted_ts rfl rfl rfl | exact wanted_fs rfl rfl rfl) rfl (of_decide_eq_true rfl) rfl rfl ?_; simp only [Act.put, List.setIfInBounds_toArray, List.set_cons_succ, List.set_cons_zero])
          | (refine wpQuiet_and_und rfl (by first | exact wanted_t rfl rfl rfl | exact wanted_f rfl rfl rfl | exact wanted_ts rfl rfl rfl | exact wanted_fs rfl rfl rfl) rfl (of_decide_eq_true rfl) rfl rfl ?_; simp only [Act.put, List.setIfInBounds_toArray, List.set_cons_succ, List.set_cons_zero])
          | (refine wpQuiet_und (by first | exact wanted_t rfl rfl rfl | exact wanted_f rfl rfl rfl | exact wanted_ts rfl rfl rfl | exact wanted_fs rfl rfl rfl) rfl (of_decide_eq_true rfl) ?_
             apply Exists.intro
             refine ⟨fun hb => ?_, ?_⟩
             · (skip)
               (try simp only [sel_of hb])
               (try (have hb1 := and_l hb; (try simp only [sel_of hb1]); (try (have hb2 := and_l hb1; (try simp only [sel_of hb2]); (try (have hb3 := and_l hb2; (try simp only [sel_of hb3])))))))
               go_big_quiet_op
               first | ((show Act.eval _ (Operand.tmp _) = _); conv => (lhs; whnf)) | (apply Exists.intro; refine ⟨fun _ => ?_, ?_⟩; (focus (go_at_call 104; exact fut_callS _ (loads_any _ _ _ _ _ _ _ _ _ _ _ _ _ _))); ((show Act.eval _ (Operand.tmp _) = _); conv => (lhs; whnf)))
             simp only [Act.put, List.setIfInBounds_toArray, List.set_cons_succ, List.set_cons_zero]))
        refine wpQuiet_nil ?_
        intro s3
        generalize h2 : (!e.kind == 1 && !e.kind == 3 || f == (k : Int) || true || false || false || false || false) = b82
        obtain rfl : b82 = true := by rw [← h2]; simp
        clear h2
        go_wp2
        go_ret
        exact ⟨ret_bool (from_no hke HFF.out (from8a HEN.out g1 H1.out)), HEND.out (s.up hbx1 s3)⟩
      · have g3 : decide (f < 0) = false := decide_eq_false (by omega)
        have g4 : decide ((x.evs.length : Int) ≤ f) = true := decide_eq_true g2
        go_upto_region 8 with (fail)
        refine wp_region_futs s2 (by kernel_rfl) (lexOf lexFrom (by kernel_rfl)) ?_
        repeat (first
          | (refine wpQuiet_or rfl rfl rfl rfl ?_; simp only [Act.put, List.setIfInBounds_toArray, List.set_cons_succ, List.set_cons_zero])
          | (refine wpQuiet_and rfl rfl rfl rfl ?_; simp only [Act.put, List.setIfInBounds_toArray, List.set_cons_succ, List.set_cons_zero])
          | go_big_quiet_skip
          | (go_big_quiet_want; go_big_quiet_op; first | go_big_quiet_on | go_big_quiet_call ((go_at_call 104; exact fut_callS _ (loads_any _ _ _ _ _ _ _ _ _ _ _ _ _ _))))
          | (refine wpQuiet_dead (by first | exact wanted_t rfl rfl rfl | exact wanted_f rfl rfl rfl | exact wanted_ts rfl rfl rfl | exact wanted_fs rfl rfl rfl) rfl (of_decide_eq_true rfl) (by simp only [Bool.not_true, Bool.and_false, Bool.false_and, Bool.or_true, Bool.true_or]) ?_; simp only [Act.put, List.setIfInBounds_toArray, List.set_cons_succ, List.set_cons_zero])
          | (refine wpQuiet_or_und rfl (by first | exact wanted_t rfl rfl rfl | exact wanted_f rfl rfl rfl | exact wanted_ts rfl rfl rfl | exact wanted_fs rfl rfl rfl) rfl (of_decide_eq_true rfl) rfl rfl ?_; simp only [Act.put, List.setIfInBounds_toArray, List.set_cons_succ, List.set_cons_zero])
          | (refine wpQuiet_and_und rfl (by first | exact wanted_t rfl rfl rfl | exact wanted_f rfl rfl rfl | exact wanted_ts rfl rfl rfl | exact wanted_fs rfl rfl rfl) rfl (of_decide_eq_true rfl) rfl rfl ?_; simp only [Act.put, List.setIfInBounds_toArray, List.set_cons_succ, List.set_cons_zero])
          | (refine wpQuiet_und (by first | exact wanted_t rfl rfl rfl | exact wanted_f rfl rfl rfl | exact wanted_ts rfl rfl rfl | exact wanted_fs rfl rfl rfl) rfl (of_decide_eq_true rfl) ?_
             apply Exists.intro
             refine ⟨fun hb => ?_, ?_⟩
             · (skip)
               (try simp only [sel_of hb])
               (try (have hb1 := and_l hb; (try simp only [sel_of hb1]); (try (have hb2 := and_l hb1; (try simp only [sel_of hb2]); (try (have hb3 := and_l hb2; (try simp only [sel_of hb3])))))))
               go_big_quiet_op
               first | ((show Act.eval _ (Operand.tmp _) = _); conv => (lhs; whnf)) | (apply Exists.intro; refine ⟨fun _ => ?_, ?_⟩; (focus (go_at_call 104; exact fut_callS _ (loads_any _ _ _ _ _ _ _ _ _ _ _ _ _ _))); ((show Act.eval _ (Operand.tmp _) = _); conv => (lhs; whnf)))
             simp only [Act.put, List.setIfInBounds_toArray, List.set_cons_succ, List.set_cons_zero]))
        refine wpQuiet_nil ?_
        intro s3
        generalize h2 : (!e.kind == 1 && !e.kind == 3 || f == (k : Int) || false || true || false || false || false) = b82
        obtain rfl : b82 = true := by rw [← h2]; simp
        clear h2
        go_wp2
        go_ret
        exact ⟨ret_bool (from_no hke HFF.out (from8b HEN.out g1 g2 H1.out)), HEND.out (s.up hbx1 s3)⟩
      · have g3 : decide (f < 0) = false := decide_eq_false (by omega)
        have g4 : decide ((x.evs.length : Int) ≤ f) = false := decide_eq_false (by omega)
        obtain ⟨g, hg⟩ : ∃ g, g = x.evs[f.toNat]?.getD zev := ⟨_, rfl⟩
        have hG : ∀ t : Fut W1, EvAt t.val be (oe + f.toNat * 13) g := fun t => by rw [hg]; exact (he1 t).at f.toNat (by omega)
        have HG := Lib.hid hg
        clear hg
        obtain ⟨Ba, ba, Bd, bd, Bc, bc, e0, e1, e2, e3, e4, e5, e6, e7, e8, e9, e10, e11, e12, _, _, _⟩ := EvAt.facts ((he1 ⟨W1, Below.refl _ _⟩).at f.toNat (by omega))
        rw [← HG.out] at e0 e1 e2 e3 e4 e5 e6 e7 e8 e9 e10 e11 e12
        clear hG
        go_upto_region 8 with (fail)
        refine wp_region_futs s2 (by kernel_rfl) (lexOf lexFrom (by kernel_rfl)) ?_
        repeat (first
          | (refine wpQuiet_or rfl rfl rfl rfl ?_; simp only [Act.put, List.setIfInBounds_toArray, List.set_cons_succ, List.set_cons_zero])
          | (refine wpQuiet_and rfl rfl rfl rfl ?_; simp only [Act.put, List.setIfInBounds_toArray, List.set_cons_succ, List.set_cons_zero])
          | go_big_quiet_skip
          | (go_big_quiet_want; go_big_quiet_op; first | go_big_quiet_on | go_big_quiet_call ((first | (go_at_call 104; exact fut_callS _ (loads_any _ _ _ _ _ _ _ _ _ _ _ _ _ _)) | (go_at_call 102; exact fut_callS _ (stores_any _ _ _ _ _ _ _ _ _ _ _ _ _ _)))))
          | (refine wpQuiet_dead (by first | exact wanted_t rfl rfl rfl | exact wanted_f rfl rfl rfl | exact wanted_ts rfl rfl rfl | exact wanted_fs rfl rfl rfl) rfl (of_decide_eq_true rfl) (by simp only [Bool.not_true, Bool.and_false, Bool.false_and, Bool.or_true, Bool.true_or]) ?_; simp only [Act.put, List.setIfInBounds_toArray, List.set_cons_succ, List.set_cons_zero])
          | (refine wpQuiet_or_und rfl (by first | exact wanted_t rfl rfl rfl | exact wanted_f rfl rfl rfl | exact wanted_ts rfl rfl rfl | exact wanted_fs rfl rfl rfl) rfl (of_decide_eq_true rfl) rfl rfl ?_; simp only [Act.put, List.setIfInBounds_toArray, List.set_cons_succ, List.set_cons_zero])
          | (refine wpQuiet_and_und rfl (by first | exact wanted_t rfl rfl rfl | exact wanted_f rfl rfl rfl | exact wanted_ts rfl rfl rfl | exact wanted_fs rfl rfl rfl) rfl (of_decide_eq_true rfl) rfl rfl ?_; simp only [Act.put, List.setIfInBounds_toArray, List.set_cons_succ, List.set_cons_zero])
          | (refine wpQuiet_und (by first | exact wanted_t rfl rfl rfl | exact wanted_f rfl rfl rfl | exact wanted_ts rfl rfl rfl | exact wanted_fs rfl rfl rfl) rfl (of_decide_eq_true rfl) ?_
             apply Exists.intro
             refine ⟨fun hb => ?_, ?_⟩
             · (skip)
               (try simp only [sel_of hb])
               (try (have hb1 := and_l hb; (try simp only [sel_of hb1]); (try (have hb2 := and_l hb1; (try simp only [sel_of hb2]); (try (have hb3 := and_l hb2; (try simp only [sel_of hb3])))))))
               go_big_quiet_op
               first | ((show Act.eval _ (Operand.tmp _) = _); conv => (lhs; whnf)) | (apply Exists.intro; refine ⟨fun _ => ?_, ?_⟩; (focus (first | (go_at_call 104; exact fut_callS _ (loads_any _ _ _ _ _ _ _ _ _ _ _ _ _ _)) | (go_at_call 102; exact fut_callS _ (stores_any _ _ _ _ _ _ _ _ _ _ _ _ _ _)))); ((show Act.eval _ (Operand.tmp _) = _); conv => (lhs; whnf)))
             simp only [Act.put, List.setIfInBounds_toArray, List.set_cons_succ, List.set_cons_zero]))
        refine wpQuiet_nil ?_
        intro s3
        generalize h2 : (!e.kind == 1 && !e.kind == 3 || f == (k : Int) || false || false || !g.kind == 2 && !g.kind == 3 && !g.kind == 5 || g.addr != e.addr || g.value != e.readv) = b82
        have H2 := Lib.hid h2
        clear h2
        cases b82
        case true =>
          go_wp2
          go_ret
          exact ⟨ret_bool (from_no hke HFF.out (from8c HEN.out HG.out g1 g2 H1.out H2.out)), HEND.out (s.up hbx1 s3)⟩
        case false =>
          go_wp2
          go_roundw
          case rel => exact ⟨k + 1, by omega, by go_num, from_yes HT.out HFF.out (from8c HEN.out HG.out g1 g2 H1.out H2.out), s.up hbx1 s3, rfl⟩
          case measure => simp [intOf]; omega
    · go_wp2
      go_ret
      exact ⟨ret_bool (from_end HT.out (by omega) HLEN.out), HEND.out s⟩
end Go.Proofs.YtacnbdnmkmpldaaGreat
