/- events.order: may Order be? -/
import Derived.Test.YtacnbdnmkmpldaaGreatEvE
import Derived.Test.YtacnbdnmkmpldaaGreatItI
namespace Go.Proofs.YtacnbdnmkmpldaaGreat
open Go.RowKit Q
set_option linter.unusedSimpArgs false
set_option linter.unusedVariables false

def orderTo (x : Ex) (addrs : List Int) (k : Nat) : Bool := (List.range k).all fun i => orderOk x addrs i (x.order.getD i [])
theorem orderTo_succ (x : Ex) (addrs : List Int) (k : Nat) : orderTo x addrs (k + 1) = (orderTo x addrs k && orderOk x addrs k (x.order.getD k [])) := by
  simp [orderTo, List.range_succ, List.all_append]
/-- The events below k that store at an address. -/
def storesTo (x : Ex) (a : Int) (k : Nat) : List Int := ((List.range k).filter fun n => stores (ev x n) && (ev x n).addr == a).map fun n : Nat => (n : Int)
theorem storesTo_len (x : Ex) (a : Int) (k : Nat) : (storesTo x a k).length ≤ k := by
  have := List.length_filter_le (fun n => stores (ev x n) && (ev x n).addr == a) (List.range k)
  simpa [storesTo] using this
theorem storesTo_yes {x : Ex} {a : Int} {k : Nat} {e : Ev} (he : e = x.evs[k]?.getD zev) (h : (stores e && e.addr == a) = true) : storesTo x a (k + 1) = storesTo x a k ++ [(k : Int)] := by
  have h' : (stores (ev x k) && (ev x k).addr == a) = true := by subst he; exact h
  simp only [storesTo, List.range_succ, List.filter_append, List.map_append]
  simp [h']
theorem storesTo_no {x : Ex} {a : Int} {k : Nat} {e : Ev} (he : e = x.evs[k]?.getD zev) (h : (stores e && e.addr == a) = false) : storesTo x a (k + 1) = storesTo x a k := by
  have h' : (stores (ev x k) && (ev x k).addr == a) = false := by subst he; exact h
  simp only [storesTo, List.range_succ, List.filter_append, List.map_append]
  simp [h']
theorem order_no {x : Ex} {addrs l : List Int} {k : Nat} (hk : k < addrs.length) (hl : l = x.order[k]?.getD []) (h : orderOk x addrs k l = false) : orderB x addrs = false := by
  unfold orderB
  rw [all_range_false hk (by rw [List.getD_eq_getElem?_getD, ← hl]; exact h)]; simp
theorem order_yes {x : Ex} {addrs l : List Int} {k : Nat} (hT : orderTo x addrs k = true) (hl : l = x.order[k]?.getD []) (h : orderOk x addrs k l = true) : orderTo x addrs (k + 1) = true := by
  rw [orderTo_succ, hT, List.getD_eq_getElem?_getD, ← hl, h]; rfl
theorem order_end {x : Ex} {addrs : List Int} (hT : orderTo x addrs x.order.length = true) (hl : x.order.length = addrs.length) : orderB x addrs = true := by
  unfold orderB
  unfold orderTo at hT
  rw [hl] at hT
  rw [hT, hl]; simp
theorem order_ok {x : Ex} {addrs l : List Int} {k : Nat} {a f : Int} (hl : 0 < l.length) (hf : l[0]?.getD 0 = f) (ha : a = addrs[k]?.getD 0) : orderOk x addrs k l = (f == (k : Int) && sortI l == storesTo x a x.evs.length) := by
  have : l.isEmpty = false := by cases l <;> simp_all
  unfold orderOk
  rw [this, List.getD_eq_getElem?_getD, hf, List.getD_eq_getElem?_getD, ← ha]
  rfl
theorem owned_below {w w' : World} {base : Nat} {e : TypeId} {size n : Nat} {v : Value} {xs : List Value} (h : w.ownsRow base e size v n xs) (hb : Below w.heap.size w w') : w'.ownsRow base e size v n xs := by
  refine ⟨h.1, ?_⟩
  rcases h.2 with h | ⟨g, cap, cur, e1, e2, e3, e4, e5, e6, e7⟩
  · exact .inl h
  · exact .inr ⟨g, cap, cur, e1, e2, (hb.block g (Array.getElem?_eq_some_iff.1 e3).1).trans e3, e4, e5, e6, e7⟩
theorem grown_below {w w1 : World} {base : Nat} {e : TypeId} {size n : Nat} {v : Value} {xs : List Value} {o : Obj} (hs : base ≤ w.heap.size) (h : w.ownsRow base e size v n xs) (hg : (w.alloc o).grownBy w1 v.ownBlock) : Below base w w1 := by
  refine ((Below.refl base w).alloc hs o).grown hg (by simp; omega) fun k e' => ?_
  rcases h.2 with ⟨rfl, _⟩ | ⟨g, cap, cur, rfl, hb, _⟩
  · cases e'
  · cases e'; exact hb

theorem below_drewN {B : Nat} {a w : World} (n : Nat) (h : Below B a w) : Below B a (w.drewN n) := ⟨h.os, h.tape, h.output, h.size, h.block⟩

set_option maxRecDepth 100000 in
set_option maxHeartbeats 4000000 in
theorem order_any (x : Ex) (addrs : List Int) (Ae Ao Aa : Option Addr) (ce co ca : Nat) (Vf : Value) (w : World) (he : Evs w Ae x.evs) (ho : Q.Rows w Ao x.order) (ha : U32s w Aa addrs) :
    Calls Tryz.prog 91 #[.agg #[.slice Ae x.evs.length ce, Vf, .slice Ao x.order.length co], .slice Aa addrs.length ca] w fun r w' =>
      r = .returned (.bool (orderB x addrs)) ∧ Below w.heap.size w w' := by
  have hl0 := ho.1
  have hx0 := he.1
  have ha0 := ha.1
  obtain ⟨i0, hi, hz0, hz1, hz2⟩ := info_parts infoI
  by_cases hlen : x.order.length = addrs.length
  case neg =>
    have q0 : ((x.order.length : Int) == addrs.length) = false := by simp; omega
    have q1 : ((x.order.length : Int) != addrs.length) = true := by simp; omega
    go_enter Tryz.func91, Tryz.ntmps91
    go_wp2
    go_ret
    exact ⟨ret_bool (by simp [orderB, hlen]), (Below.refl _ _).alloc (Nat.le_refl _) _⟩
  have q0 : ((x.order.length : Int) == addrs.length) = true := by simp; omega
  have q1 : ((x.order.length : Int) != addrs.length) = false := by simp; omega
  have HLEN := Lib.hid hlen
  clear hlen
  go_enter Tryz.func91, Tryz.ntmps91
  go_upto_region 1 with (fail)
  obtain ⟨W0, s0, hW0, hbx, hsz, b0, b1, b2⟩ := box3 w 26 (.slice Ae x.evs.length ce) Vf (.slice Ao x.order.length co)
  rw [hW0]
  clear hW0
  have he0 := he.below hbx
  have ho0 := ho.below hbx
  have ha1 := ha.below hbx
  clear he ho ha
  have hend : ∀ s : Fut W0, Below w.heap.size w s.val := fun s => hbx.trans (s.below.mono (Nat.le_of_lt hsz))
  have HEND := Lib.hid hend
  clear hend
  go_wp2
  go_loopw [19] (fun i wr => ∃ k : Nat, k ≤ x.order.length ∧ i = .int .i64 k ∧ orderTo x addrs k = true ∧ ∃ s : Fut W0, wr = s.val) (fun i _ => x.order.length - (intOf i).toNat)
  case atStart => exact ⟨0, Nat.zero_le _, rfl, rfl, s0, rfl⟩
  case round =>
    obtain ⟨k, hk, rfl, hT, s, rfl⟩ := hrel
    have HT := Lib.hid hT
    clear hT
    by_cases hlt : k < x.order.length
    case neg =>
      obtain rfl : k = x.order.length := by omega
      go_wp2
      go_ret
      exact ⟨ret_bool (order_end HT.out HLEN.out), HEND.out s⟩
    have hka : k < addrs.length := by have := HLEN.out; omega
    obtain ⟨bo, oo, rfl, hco⟩ := ho0.2 (by omega)
    obtain ⟨ba, oa, rfl, hca⟩ := ha1.2 (by omega)
    obtain ⟨l, hl⟩ : ∃ l, l = x.order[k]?.getD [] := ⟨_, rfl⟩
    obtain ⟨a, haa⟩ : ∃ a, a = addrs[k]?.getD 0 := ⟨_, rfl⟩
    obtain ⟨B, cB, hcl0, hil⟩ := hco k hlt
    rw [← hl] at hcl0 hil
    have hcl := fun t : Fut W0 => t.cell hcl0
    have hcak := fun t : Fut W0 => t.cell (hca k hka)
    rw [← haa] at hcak
    have HL := Lib.hid hl
    have HA := Lib.hid haa
    clear hl haa hco hca hcl0
    go_wp2
    go_loopw [7, 27] (fun wv iv wr => ∃ n : Nat, n ≤ x.evs.length ∧ iv = .int .i64 n ∧ (∃ t : Fut W0, wr = t.val) ∧ wr.ownsRow W0.heap.size 3 1 wv (storesTo x a n).length ((storesTo x a n).map (Value.int .i64)) ∧ (wv = .slice none 0 0 ↔ storesTo x a n = []))
      (fun _ iv _ => x.evs.length - (intOf iv).toNat)
    case atStart => exact ⟨0, Nat.zero_le _, rfl, ⟨s, rfl⟩, World.ownsRow_nil _ _ _ _, by simp [storesTo]⟩
    case round =>
      obtain ⟨n, hn, rfl, ⟨t, rfl⟩, hown, hnil⟩ := hrel
      by_cases hlt2 : n < x.evs.length
      case pos =>
        obtain ⟨be, oe, rfl, _⟩ := he0.2 (by omega)
        obtain ⟨e, hen⟩ : ∃ e, e = x.evs[n]?.getD zev := ⟨_, rfl⟩
        have hE := he0.at n hlt2
        rw [← hen] at hE
        obtain ⟨Aa', ca', Ad, cd, Ac, cc, f0, f1, f2, f3, f4, f5, f6, f7, f8, f9, f10, f11, f12, _, _, _⟩ := hE.facts
        have HEN := Lib.hid hen
        clear hen hE
        go_upto_region 10 with (fail)
        obtain ⟨W1, s1, hW1, hbx1, hsz1, c0, c1, c2, c3, c4, c5, c6, c7, c8, c9, c10, c11, c12⟩ := box13 t.val 42 (.int .i64 e.hart) (.int .i64 e.kind) (.int .u32 e.addr) (.int .u32 e.value) (.int .u32 e.readv) (.bool e.aq) (.bool e.rl) (.int .i64 e.pred) (.int .i64 e.succ) (.bool e.resv) (.slice Aa' e.addrs.length ca') (.slice Ad e.datas.length cd) (.slice Ac e.ctrls.length cc)
        rw [hW1]
        have hcak1 : ∀ q : Fut W1, q.val.cell? ⟨ba, oa + k, none⟩ = some (.int .u32 a) := fun q => hcak (t.up hbx1 q)
        have hown1 : ∀ q : Fut W1, q.val.ownsRow W0.heap.size 3 1 u7 (storesTo x a n).length ((storesTo x a n).map (Value.int .i64)) := fun q => owned_below (owned_below hown hbx1) q.below
        have HOWN := Lib.hid hown1
        have HNIL := Lib.hid hnil
        clear hW1 f0 f1 f2 f3 f4 f5 f6 f7 f8 f9 f10 f11 f12 b0 b1 b2 hcak hown hown1 hnil hcl
        refine wp_region_futs s1 (by kernel_rfl) (lexOf lexOrder (by kernel_rfl)) ?_
        repeat (first
          | (refine wpQuiet_or rfl rfl rfl rfl ?_; simp only [Act.put, List.setIfInBounds_toArray, List.set_cons_succ, List.set_cons_zero])
          | (refine wpQuiet_and rfl rfl rfl rfl ?_; simp only [Act.put, List.setIfInBounds_toArray, List.set_cons_succ, List.set_cons_zero])
          | go_big_quiet_skip
          | (go_big_quiet_want; go_big_quiet_op; first | go_big_quiet_on | go_big_quiet_call ((go_at_call 102; exact fut_callS _ (stores_any _ _ _ _ _ _ _ _ _ _ _ _ _ _))))
          | (refine wpQuiet_dead (by first | exact wanted_t rfl rfl rfl | exact wanted_f rfl rfl rfl | exact wanted_ts rfl rfl rfl | exact wanted_fs rfl rfl rfl) rfl (of_decide_eq_true rfl) (by simp only [Bool.not_true, Bool.and_false, Bool.false_and, Bool.or_true, Bool.true_or]) ?_; simp only [Act.put, List.setIfInBounds_toArray, List.set_cons_succ, List.set_cons_zero])
          | (refine wpQuiet_or_und rfl (by first | exact wanted_t rfl rfl rfl | exact wanted_f rfl rfl rfl | exact wanted_ts rfl rfl rfl | exact wanted_fs rfl rfl rfl) rfl (of_decide_eq_true rfl) rfl rfl ?_; simp only [Act.put, List.setIfInBounds_toArray, List.set_cons_succ, List.set_cons_zero])
          | (refine wpQuiet_and_und rfl (by first | exact wanted_t rfl rfl rfl | exact wanted_f rfl rfl rfl | exact wanted_ts rfl rfl rfl | exact wanted_fs rfl rfl rfl) rfl (of_decide_eq_true rfl) rfl rfl ?_; simp only [Act.put, List.setIfInBounds_toArray, List.set_cons_succ, List.set_cons_zero])
          | (refine wpQuiet_und (by first | exact wanted_t rfl rfl rfl | exact wanted_f rfl rfl rfl | exact wanted_ts rfl rfl rfl | exact wanted_fs rfl rfl rfl) rfl (of_decide_eq_true rfl) ?_
             apply Exists.intro
             refine ⟨fun hb => ?_, ?_⟩
             · (skip)
               (try simp only [sel_of hb])
               (try (have hb1 := and_l hb; (try simp only [sel_of hb1]); (try (have hb2 := and_l hb1; (try simp only [sel_of hb2]); (try (have hb3 := and_l hb2; (try simp only [sel_of hb3])))))))
               go_big_quiet_op
               first | ((show Act.eval _ (Operand.tmp _) = _); conv => (lhs; whnf)) | (apply Exists.intro; refine ⟨fun _ => ?_, ?_⟩; (focus (go_at_call 102; exact fut_callS _ (stores_any _ _ _ _ _ _ _ _ _ _ _ _ _ _))); ((show Act.eval _ (Operand.tmp _) = _); conv => (lhs; whnf)))
             simp only [Act.put, List.setIfInBounds_toArray, List.set_cons_succ, List.set_cons_zero]))
        refine wpQuiet_nil ?_
        intro s2
        generalize h1 : ((e.kind == 2 || e.kind == 3 || e.kind == 5) && e.addr == a) = b42
        have H1 := Lib.hid h1
        clear h1
        have ho2 := HOWN.out s2
        have hsz2 : W0.heap.size ≤ s2.val.heap.size := (t.up hbx1 s2).below.size
        cases b42
        case true =>
          have hlen2 := storesTo_len x a n
          go_wp2_with (at_builtin; refine wpList_append_own _ rfl _ _ 23 rfl W0.heap.size 3 i0 (.int .i64 0) 1 8 Tryz.underlying23 hi hz0 hz1 hz2 rfl (by decide) _ _ _ rfl (ho2.alloc _) ⟨s2.val.heap.size, 0, none⟩ 1 1 [.int .i64 (n : Int)] rfl rfl (cell_one_new _ _ _) (by simp [Value.oneCell']) (by unfold maxLen; omega) (by omega) (by simp; omega) ?_; intro v' w1 hown' hgrow hnil')
          go_roundw
          case rel =>
            have hs := storesTo_yes HEN.out H1.out
            refine ⟨n + 1, by omega, by go_num, ⟨⟨w1, ?_⟩, rfl⟩, ?_, ?_⟩
            · exact (t.up hbx1 s2).below.trans (grown_below hsz2 ho2 hgrow)
            · rw [hs]; simpa using hown'
            · rw [hs]; simp [hnil']
          case measure => simp [intOf]; omega
        case false =>
          have hs := storesTo_no HEN.out H1.out
          go_wp2
          go_roundw
          case rel => exact ⟨n + 1, by omega, by go_num, ⟨t.up hbx1 s2, rfl⟩, by rw [hs]; exact ho2, by rw [hs]; exact HNIL.out⟩
          case measure => simp [intOf]; omega
      case neg =>
        obtain rfl : n = x.evs.length := by omega
        generalize hst : storesTo x a x.evs.length = st at hown hnil
        have HST := Lib.hid hst
        clear hst
        by_cases hlz : l.length = 0
        case pos =>
          have q2 : ((l.length : Int) == 0) = true := beq_iff_eq.2 (by omega)
          go_wp2
          go_ret
          exact ⟨ret_bool (order_no hka HL.out (by have : l = [] := List.eq_nil_of_length_eq_zero hlz; subst this; rfl)), HEND.out t⟩
        have q2 : ((l.length : Int) == 0) = false := beq_eq_false_iff_ne.2 (by omega)
        obtain ⟨bl, ol, rfl, hcl1⟩ := hil.2 (by omega)
        obtain ⟨f, hf⟩ : ∃ f, l[0]?.getD 0 = f := ⟨_, rfl⟩
        have hc0 := t.cell (hcl1 0 (by omega))
        rw [hf, Nat.add_zero] at hc0
        have HF := Lib.hid hf
        clear hf
        by_cases hfk : f = (k : Int)
        case neg =>
          have q3 : (f == (k : Int)) = false := by simp; omega
          have q4 : (f != (k : Int)) = true := by simp; omega
          go_wp2
          go_ret
          exact ⟨ret_bool (order_no hka HL.out (by rw [order_ok (by omega) HF.out HA.out, q3]; rfl)), HEND.out t⟩
        subst hfk
        have q3 : ((k : Int) == (k : Int)) = true := by simp
        have q4 : ((k : Int) != (k : Int)) = false := by simp
        have hblk : bl < W0.heap.size := World.block_lt_of_cell? W0 _ (hcl1 0 (by omega))
        have hts := t.below.size
        have hcw : ∀ j, j < l.length → (t.val.alloc (.cells #[.slice (some ⟨bl, ol, none⟩) l.length cB] 23)).cell? ⟨bl, ol + j, none⟩ = some (.int .i64 (l[j]?.getD 0)) := fun j hj => by
          rw [← t.cell (hcl1 j hj)]
          exact ((Below.refl t.val.heap.size t.val).alloc (Nat.le_refl _) _).cell (p := ⟨bl, ol + j, none⟩) (by show bl < _; omega)
        have hsv := sorted_values t.val.heap.size bl ol cB l (by omega) hil.1 (t.val.alloc (.cells #[.slice (some ⟨bl, ol, none⟩) l.length cB] 23)) (by simp) (by simp; omega) (by simp) hcw
        have hsl : (sortI l).length = l.length := by simp [sortI]
        have hH0 := HEND.out t
        have hB1 : Below t.val.heap.size t.val (t.val.alloc (.cells #[.slice (some ⟨bl, ol, none⟩) l.length cB] 23)) := (Below.refl _ _).alloc (Nat.le_refl _) _
        have hown2 : (t.val.alloc (.cells #[.slice (some ⟨bl, ol, none⟩) l.length cB] 23)).ownsRow W0.heap.size 3 1 u7 st.length (st.map (Value.int .i64)) := owned_below hown hB1
        have HOK := Lib.hid (order_ok (x := x) (addrs := addrs) (a := a) (by omega : 0 < l.length) HF.out HA.out)
        have HSV := Lib.hid hsv
        have HOWN2 := Lib.hid hown2
        have HQ3 := Lib.hid q3
        have hB2 := Lib.hid hB1
        have hlb : l.length ≤ 9223372036854775807 := by have := hil.1; omega
        have hsb0 : st.length ≤ 9223372036854775807 := by have := storesTo_len x a x.evs.length; rw [HST.out] at this; omega
        have HSL := Lib.hid hsl
        clear hsl
        have hown0 := hown.2
        clear hsv hown2 hcw hown hcl1 hil hcak hnil hB1 he0 ho0 ha1 b1
        rcases hown0 with ⟨rfl, hz⟩ | ⟨gw, cw, cur, rfl, hbase, hgb, r1, r2, r3, r4⟩
        · go_wp2_with (first
            | (go_at_call 139; refine (values_any _ _ _ _).mono ?_; rintro e w' ⟨rfl, rfl⟩)
            | (go_at_call 86; refine HSV.out.mono ?_; rintro e w' ⟨SB, sc, rfl, hsc, hsb⟩; rw [HSL.out]; clear hsc)
            | (go_at_call 138; refine (Tryz.slices_Equal_int_lens _ _ _ _ _ _ _ hlz).mono ?_; rintro e w' ⟨rfl, rfl⟩))
          go_ret
          have hq : (sortI l == st) = false := beq_eq_false_iff_ne.2 fun e => by have := HSL.out; rw [e] at this; omega
          exact ⟨ret_bool (order_no hka HL.out (by rw [HOK.out, HST.out, HQ3.out, hq]; rfl)), hH0.trans ((hB2.out.trans (hsb.mono (by simp))).mono (Nat.le_trans hbx.size t.below.size))⟩
        · clear hgb r1 r2 r3 r4 hbase
          go_wp2_with (first
            | (go_at_call 139; refine (values_any _ _ _ _).mono ?_; rintro e w' ⟨rfl, rfl⟩)
            | (go_at_call 86; refine HSV.out.mono ?_; rintro e w' ⟨SB, sc, rfl, hsc, hsb⟩
               have hE := Tryz.slices_Equal_int SB 0 l.length sc gw 0 st.length cw (sortI l) st w' (Nat.le_of_eq HSL.out.symm) (Nat.le_refl _) hlb hsb0 (fun j hj => by rw [List.getD_eq_getElem?_getD]; exact hsc j hj) (fun j hj => by rw [List.getD_eq_getElem?_getD]; exact owned_cells (owned_below HOWN2.out hsb) j hj)
               rw [List.take_of_length_le (Nat.le_of_eq HSL.out), List.take_length] at hE
               have HE := Lib.hid hE
               rw [HSL.out]
               clear hsc hE)
            | (go_at_call 138; refine HE.out.mono ?_; rintro e w2 ⟨rfl, nd, rfl⟩; clear HE; generalize hbq : (sortI l == st) = bq; have HB := Lib.hid hbq; clear hbq; cases bq))
          · go_ret
            exact ⟨ret_bool (order_no hka HL.out (by rw [HOK.out, HST.out, HQ3.out, HB.out]; rfl)), hH0.trans ((hB2.out.trans ((hsb.trans (below_drewN nd (Below.refl _ _))).mono (by simp))).mono (Nat.le_trans hbx.size t.below.size))⟩
          · go_roundw
            case rel => exact ⟨k + 1, by omega, by go_num, order_yes HT.out HL.out (by rw [HOK.out, HST.out, HQ3.out, HB.out]; rfl), ⟨_, t.below.trans ((hB2.out.trans ((hsb.trans (below_drewN nd (Below.refl _ _))).mono (by simp))).mono t.below.size)⟩, rfl⟩
            case measure => simp [intOf]; omega
end Go.Proofs.YtacnbdnmkmpldaaGreat
