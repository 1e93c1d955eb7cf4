/- The reference's Same. -/
import Derived.Test.YtacnbdnmkmpldaaSmS
import Derived.Deep.RegionHeld3
namespace Go.Proofs.Ytacnbdnmkmpldaa
open Go Go.Proofs Go.RowKit Q
set_option linter.unusedSimpArgs false
set_option linter.unusedVariables false

theorem lexSame6 : Region.lexB .any (opsOf Try.f22 6) = true := by kernel_rfl
theorem cell_new2 {w : World} (o : Obj) {p : Addr} {v : Value} (h : w.cell? p = some v) : (w.alloc o).cell? p = some v := cell_kept h (World.grownBy_alloc w o none) (fun j e => by cases e)

set_option maxRecDepth 100000 in
set_option maxHeartbeats 4000000 in
theorem refSame_any (x y : Ex) (Ae Af Ao Be Bf Bo : Option Addr) (ce cf co de df do_ : Nat) (w : World) (he : Evs w Ae x.evs) (hf : Ints w Af x.src) (ho : Q.Rows w Ao x.order) (ge : Evs w Be y.evs) (gf : Ints w Bf y.src) (go : Q.Rows w Bo y.order) :
    Calls Try.prog 22 #[.agg #[.slice Ae x.evs.length ce, .slice Af x.src.length cf, .slice Ao x.order.length co], .agg #[.slice Be y.evs.length de, .slice Bf y.src.length df, .slice Bo y.order.length do_]] w fun r w' =>
      r = .returned (.bool (exB x y)) ∧ Below w.heap.size w w' := by
  have hx0 := he.1
  have hy0 := ge.1
  have hxo := ho.1
  have hyo := go.1
  go_enter Try.func22, Try.ntmps22
  go_upto_region 1 with (fail)
  obtain ⟨W0, s0, hW0, hbx, hsz, b0, b1, b2⟩ := box3 w 26 (.slice Ae x.evs.length ce) (.slice Af x.src.length cf) (.slice Ao x.order.length co)
  rw [hW0]
  obtain ⟨W1, s1, hW1, hbx1, hsz1, c0, c1, c2⟩ := box3 s0.val 26 (.slice Be y.evs.length de) (.slice Bf y.src.length df) (.slice Bo y.order.length do_)
  rw [hW1]
  have hs0 : s0.val.heap.size = w.heap.size + 1 := by rw [← hW0]; simp
  rw [hs0] at c0 c1 c2
  clear hW0 hW1
  have b0' : ∀ s : Fut W1, s.val.cell? ⟨w.heap.size, 0, none⟩ = some (.slice Ae x.evs.length ce) := fun s => b0 (s0.up hbx1 s)
  have b1' : ∀ s : Fut W1, s.val.cell? ⟨w.heap.size, 1, none⟩ = some (.slice Af x.src.length cf) := fun s => b1 (s0.up hbx1 s)
  have b2' : ∀ s : Fut W1, s.val.cell? ⟨w.heap.size, 2, none⟩ = some (.slice Ao x.order.length co) := fun s => b2 (s0.up hbx1 s)
  have hB1 : Below w.heap.size w W1 := hbx.trans ((s0.below.mono (Nat.le_of_lt hsz)).trans (hbx1.mono (Nat.le_trans hbx.size s0.below.size)))
  have h1 := he.below hB1
  have h2 : ∀ s : Fut W1, Ints s.val Af x.src := fun s => (hf.below hB1).fut s
  have h3 := ho.below hB1
  have h4 := ge.below hB1
  have h5 : ∀ s : Fut W1, Ints s.val Bf y.src := fun s => (gf.below hB1).fut s
  have h6 := go.below hB1
  have hend : ∀ s : Fut W1, Below w.heap.size w s.val := fun s => hB1.trans (s.below.mono hB1.size)
  have HEND := Lib.hid hend
  clear b0 b1 b2 he hf ho ge gf go hend hbx hbx1 hB1 hsz hsz1
  have k0 := b0' s1
  have k1 := b1' s1
  have k2 := b2' s1
  have l0 := c0 s1
  have l1 := c1 s1
  have l2 := c2 s1
  by_cases hl1 : x.evs.length = y.evs.length
  case neg =>
    have q0 : ((x.evs.length : Int) == y.evs.length) = false := by rw [beq_eq_false_iff_ne]; omega
    have q1 : ((x.evs.length : Int) != y.evs.length) = true := by rw [bne, q0]; rfl
    have HN := Lib.hid (show decide (x.evs = y.evs) = false from decide_eq_false (fun e => hl1 (by rw [e])))
    clear hl1 b0' b1' b2' c0 c1 c2 h1 h2 h3 h4 h5 h6
    go_wp2
    go_ret
    exact ⟨ret_bool (by unfold exB; rw [HN.out]; rfl), HEND.out s1⟩
  have q0 : ((x.evs.length : Int) == y.evs.length) = true := by rw [beq_iff_eq]; omega
  have q1 : ((x.evs.length : Int) != y.evs.length) = false := by rw [bne, q0]; rfl
  by_cases hl2 : x.order.length = y.order.length
  case neg =>
    have q2 : ((x.order.length : Int) == y.order.length) = false := by rw [beq_eq_false_iff_ne]; omega
    have q3 : ((x.order.length : Int) != y.order.length) = true := by rw [bne, q2]; rfl
    have HN := Lib.hid (show decide (x.order = y.order) = false from decide_eq_false (fun e => hl2 (by rw [e])))
    clear hl2 hl1 b0' b1' b2' c0 c1 c2 h1 h2 h3 h4 h5 h6
    go_wp2
    go_ret
    exact ⟨ret_bool (by unfold exB; rw [HN.out, Bool.and_false]), HEND.out s1⟩
  have q2 : ((x.order.length : Int) == y.order.length) = true := by rw [beq_iff_eq]; omega
  have q3 : ((x.order.length : Int) != y.order.length) = false := by rw [bne, q2]; rfl
  have HL1 := Lib.hid hl1
  have HL2 := Lib.hid hl2
  clear hl1 hl2
  by_cases hs : x.src = y.src
  case neg =>
    have HS := Lib.hid hs
    have HC := Lib.hid (sameInts_any x.src y.src Af Bf cf df s1.val (h2 s1) (h5 s1))
    clear hs b0' b1' b2' c0 c1 c2 h1 h2 h3 h4 h5 h6
    go_wp2_with (go_at_call 42; refine HC.out.mono ?_; rintro r w' ⟨rfl, hb⟩; rw [decide_eq_false HS.out])
    go_ret
    exact ⟨ret_bool (by unfold exB; rw [decide_eq_false HS.out, Bool.and_false, Bool.false_and]), (HEND.out s1).trans (hb.mono (HEND.out s1).size)⟩
  have HS := Lib.hid hs
  have HC := Lib.hid (sameInts_any x.src y.src Af Bf cf df s1.val (h2 s1) (h5 s1))
  clear hs h2 h5 b1' c1
  go_upto_region 4 with (go_at_call 42; refine HC.out.mono ?_; rintro r w' ⟨rfl, hb⟩; rw [decide_eq_true HS.out])
  obtain ⟨s3, rfl⟩ : ∃ s3 : Fut W1, w' = s3.val := ⟨⟨w', s1.below.trans (hb.mono s1.below.size)⟩, rfl⟩
  clear hb k0 k1 k2 l0 l1 l2
  go_loopw [5] (fun i wr => ∃ k : Nat, k ≤ x.order.length ∧ i = .int .i64 k ∧ (∃ s : Fut W1, wr = s.val) ∧ ∀ j, j < k → x.order[j]?.getD [] = y.order[j]?.getD []) (fun i _ => x.order.length - (intOf i).toNat)
  case atStart => exact ⟨0, Nat.zero_le _, rfl, ⟨s3, rfl⟩, fun j hj => by omega⟩
  case round =>
    obtain ⟨k, hk, rfl, ⟨s, rfl⟩, hall⟩ := hrel
    have HALL := Lib.hid hall
    clear hall
    by_cases hkl : k < x.order.length
    · have hkm : k < y.order.length := by rw [← HL2.out]; exact hkl
      obtain ⟨b1, o1, rfl, hc1⟩ := h3.2 (by omega)
      obtain ⟨b2, o2, rfl, hc2⟩ := h6.2 (by omega)
      obtain ⟨B1, c1, e1, i1⟩ := hc1 k hkl
      obtain ⟨B2, c2', e2, i2⟩ := hc2 k hkm
      obtain ⟨p, hp⟩ : ∃ p, x.order[k]?.getD [] = p := ⟨_, rfl⟩
      obtain ⟨q, hq⟩ : ∃ q, y.order[k]?.getD [] = q := ⟨_, rfl⟩
      rw [hp] at e1 i1
      rw [hq] at e2 i2
      have f1 : ∀ t : Fut W1, t.val.cell? ⟨b1, o1 + k, none⟩ = some (.slice B1 p.length c1) := fun t => t.cell e1
      have f2 : ∀ t : Fut W1, t.val.cell? ⟨b2, o2 + k, none⟩ = some (.slice B2 q.length c2') := fun t => t.cell e2
      have j1 : ∀ t : Fut W1, Ints t.val B1 p := fun t => i1.fut t
      have j2 : ∀ t : Fut W1, Ints t.val B2 q := fun t => i2.fut t
      have HP := Lib.hid hp
      have HQ := Lib.hid hq
      clear hp hq e1 e2 hc1 hc2 h1 h4 h3 h6 i1 i2 b0' c0
      go_upto_region 6 with (fail)
      refine wp_region_futs s (by kernel_rfl) (lexOf lexSame6 (by kernel_rfl)) ?_
      repeat (go_big_quiet_step ((go_at_call 42; exact fut_callS _ (sameInts_any _ _ _ _ _ _ _ (j1 _) (j2 _)))))
      refine wpQuiet_nil ?_
      intro s2
      generalize hbb : decide (p = q) = bb
      have HBB := Lib.hid hbb
      clear hbb
      cases bb
      · have HN := Lib.hid (decide_eq_false (ne_at [] HP.out HQ.out (of_decide_eq_false HBB.out)))
        go_wp2
        go_ret
        exact ⟨ret_bool (by unfold exB; rw [HN.out, Bool.and_false]), HEND.out s2⟩
      · have HPQ := Lib.hid (of_decide_eq_true HBB.out)
        go_wp2
        go_roundw
        case rel => exact ⟨k + 1, by omega, by go_num, ⟨s2, rfl⟩, fun j hj => by
          by_cases hjk : j = k
          · subst hjk; rw [HP.out, HQ.out, HPQ.out]
          · exact HALL.out j (by omega)⟩
        case measure => simp [intOf]; omega
    · obtain rfl : k = x.order.length := by omega
      have HO := Lib.hid (eq_at [] HL2.out HALL.out)
      clear h3 h6 HALL
      have k2 := b2' s
      go_upto_region 9 with (fail)
      clear b2' c2 k2
      go_loopw [6] (fun i wr => ∃ k : Nat, k ≤ x.evs.length ∧ i = .int .i64 k ∧ (∃ s : Fut W1, wr = s.val) ∧ ∀ j, j < k → x.evs[j]?.getD zev = y.evs[j]?.getD zev) (fun i _ => x.evs.length - (intOf i).toNat)
      case atStart => exact ⟨0, Nat.zero_le _, rfl, ⟨s, rfl⟩, fun j hj => by omega⟩
      case round =>
        obtain ⟨k, hk, rfl, ⟨s, rfl⟩, hall⟩ := hrel
        have HALL := Lib.hid hall
        clear hall
        have k0 := b0' s
        have l0 := c0 s
        by_cases hkl : k < x.evs.length
        · have hkm : k < y.evs.length := by rw [← HL1.out]; exact hkl
          obtain ⟨be, oe, rfl, _⟩ := h1.2 (by omega)
          obtain ⟨bg, og, rfl, _⟩ := h4.2 (by omega)
          obtain ⟨e, hen⟩ : ∃ e, e = x.evs[k]?.getD zev := ⟨_, rfl⟩
          obtain ⟨g, hgn⟩ : ∃ g, g = y.evs[k]?.getD zev := ⟨_, rfl⟩
          have hE := h1.at k hkl
          have hG := h4.at k hkm
          rw [← hen] at hE
          rw [← hgn] at hG
          obtain ⟨A1, n1, D1, d1, C1, p1, f0, f1, f2, f3, f4, f5, f6, f7, f8, f9, f10, f11, f12, ia, id_, ic⟩ := hE.facts
          obtain ⟨A2, n2, D2, d2, C2, p2, g0, g1, g2, g3, g4, g5, g6, g7, g8, g9, g10, g11, g12, ja, jd, jc⟩ := hG.facts
          have HEN := Lib.hid hen
          have HGN := Lib.hid hgn
          clear hen hgn hE hG h1 h4
          have u0 := f0 s
          have v0 := g0 s
          have u1 := f1 s
          have v1 := g1 s
          have u2 := f2 s
          have v2 := g2 s
          have u3 := f3 s
          have v3 := g3 s
          have u4 := f4 s
          have v4 := g4 s
          have u5 := f5 s
          have v5 := g5 s
          have u6 := f6 s
          have v6 := g6 s
          have u7 := f7 s
          have v7 := g7 s
          have u8 := f8 s
          have v8 := g8 s
          have u9 := f9 s
          have v9 := g9 s
          have u10 := f10 s
          have v10 := g10 s
          have u11 := f11 s
          have v11 := g11 s
          have u12 := f12 s
          have v12 := g12 s
          clear f0 f1 f2 f3 f4 f5 f6 f7 f8 f9 f10 f11 f12 g0 g1 g2 g3 g4 g5 g6 g7 g8 g9 g10 g11 g12
          go_upto_region 11 with (fail)
          go_region_held3 (fun w' => w'.cell? ⟨w.heap.size, 0, none⟩ = some (.slice (some ⟨be, oe, none⟩) x.evs.length ce) ∧ w'.cell? ⟨w.heap.size + 1, 0, none⟩ = some (.slice (some ⟨bg, og, none⟩) y.evs.length de) ∧ w'.cell? ⟨be, oe + k * 13, none⟩ = some (.int .i64 e.hart) ∧ w'.cell? ⟨be, oe + k * 13 + 1, none⟩ = some (.int .i64 e.kind) ∧ w'.cell? ⟨be, oe + k * 13 + 2, none⟩ = some (.int .u32 e.addr) ∧ w'.cell? ⟨be, oe + k * 13 + 3, none⟩ = some (.int .u32 e.value) ∧ w'.cell? ⟨be, oe + k * 13 + 4, none⟩ = some (.int .u32 e.readv) ∧ w'.cell? ⟨be, oe + k * 13 + 5, none⟩ = some (.bool e.aq) ∧ w'.cell? ⟨be, oe + k * 13 + 6, none⟩ = some (.bool e.rl) ∧ w'.cell? ⟨be, oe + k * 13 + 7, none⟩ = some (.int .i64 e.pred) ∧ w'.cell? ⟨be, oe + k * 13 + 8, none⟩ = some (.int .i64 e.succ) ∧ w'.cell? ⟨be, oe + k * 13 + 9, none⟩ = some (.bool e.resv) ∧ w'.cell? ⟨be, oe + k * 13 + 10, none⟩ = some (.slice A1 e.addrs.length n1) ∧ w'.cell? ⟨be, oe + k * 13 + 11, none⟩ = some (.slice D1 e.datas.length d1) ∧ w'.cell? ⟨be, oe + k * 13 + 12, none⟩ = some (.slice C1 e.ctrls.length p1) ∧ w'.cell? ⟨bg, og + k * 13, none⟩ = some (.int .i64 g.hart) ∧ w'.cell? ⟨bg, og + k * 13 + 1, none⟩ = some (.int .i64 g.kind) ∧ w'.cell? ⟨bg, og + k * 13 + 2, none⟩ = some (.int .u32 g.addr) ∧ w'.cell? ⟨bg, og + k * 13 + 3, none⟩ = some (.int .u32 g.value) ∧ w'.cell? ⟨bg, og + k * 13 + 4, none⟩ = some (.int .u32 g.readv) ∧ w'.cell? ⟨bg, og + k * 13 + 5, none⟩ = some (.bool g.aq) ∧ w'.cell? ⟨bg, og + k * 13 + 6, none⟩ = some (.bool g.rl) ∧ w'.cell? ⟨bg, og + k * 13 + 7, none⟩ = some (.int .i64 g.pred) ∧ w'.cell? ⟨bg, og + k * 13 + 8, none⟩ = some (.int .i64 g.succ) ∧ w'.cell? ⟨bg, og + k * 13 + 9, none⟩ = some (.bool g.resv) ∧ w'.cell? ⟨bg, og + k * 13 + 10, none⟩ = some (.slice A2 g.addrs.length n2) ∧ w'.cell? ⟨bg, og + k * 13 + 11, none⟩ = some (.slice D2 g.datas.length d2) ∧ w'.cell? ⟨bg, og + k * 13 + 12, none⟩ = some (.slice C2 g.ctrls.length p2))
            (first | go_keep | (exact ⟨cell_new2 _ k0, cell_new2 _ l0, cell_new2 _ u0, cell_new2 _ u1, cell_new2 _ u2, cell_new2 _ u3, cell_new2 _ u4, cell_new2 _ u5, cell_new2 _ u6, cell_new2 _ u7, cell_new2 _ u8, cell_new2 _ u9, cell_new2 _ u10, cell_new2 _ u11, cell_new2 _ u12, cell_new2 _ v0, cell_new2 _ v1, cell_new2 _ v2, cell_new2 _ v3, cell_new2 _ v4, cell_new2 _ v5, cell_new2 _ v6, cell_new2 _ v7, cell_new2 _ v8, cell_new2 _ v9, cell_new2 _ v10, cell_new2 _ v11, cell_new2 _ v12⟩) | (exact ⟨cell_new2 _ (cell_new2 _ k0), cell_new2 _ (cell_new2 _ l0), cell_new2 _ (cell_new2 _ u0), cell_new2 _ (cell_new2 _ u1), cell_new2 _ (cell_new2 _ u2), cell_new2 _ (cell_new2 _ u3), cell_new2 _ (cell_new2 _ u4), cell_new2 _ (cell_new2 _ u5), cell_new2 _ (cell_new2 _ u6), cell_new2 _ (cell_new2 _ u7), cell_new2 _ (cell_new2 _ u8), cell_new2 _ (cell_new2 _ u9), cell_new2 _ (cell_new2 _ u10), cell_new2 _ (cell_new2 _ u11), cell_new2 _ (cell_new2 _ u12), cell_new2 _ (cell_new2 _ v0), cell_new2 _ (cell_new2 _ v1), cell_new2 _ (cell_new2 _ v2), cell_new2 _ (cell_new2 _ v3), cell_new2 _ (cell_new2 _ v4), cell_new2 _ (cell_new2 _ v5), cell_new2 _ (cell_new2 _ v6), cell_new2 _ (cell_new2 _ v7), cell_new2 _ (cell_new2 _ v8), cell_new2 _ (cell_new2 _ v9), cell_new2 _ (cell_new2 _ v10), cell_new2 _ (cell_new2 _ v11), cell_new2 _ (cell_new2 _ v12)⟩))
            (first | (fail))
          · obtain ⟨W2, s2, hW2, hbx2, hsz2, ye0, ye1, ye2, ye3, ye4, ye5, ye6, ye7, ye8, ye9, ye10, ye11, ye12⟩ := box13 s.val 44 (.int .i64 e.hart) (.int .i64 e.kind) (.int .u32 e.addr) (.int .u32 e.value) (.int .u32 e.readv) (.bool e.aq) (.bool e.rl) (.int .i64 e.pred) (.int .i64 e.succ) (.bool e.resv) (.slice A1 e.addrs.length n1) (.slice D1 e.datas.length d1) (.slice C1 e.ctrls.length p1)
            rw [hW2]
            have hs2 : s2.val.heap.size = s.val.heap.size + 1 := by rw [← hW2]; simp
            obtain ⟨W3, s4, hW3, hbx3, hsz3, yg0, yg1, yg2, yg3, yg4, yg5, yg6, yg7, yg8, yg9, yg10, yg11, yg12⟩ := box13 s2.val 44 (.int .i64 g.hart) (.int .i64 g.kind) (.int .u32 g.addr) (.int .u32 g.value) (.int .u32 g.readv) (.bool g.aq) (.bool g.rl) (.int .i64 g.pred) (.int .i64 g.succ) (.bool g.resv) (.slice A2 g.addrs.length n2) (.slice D2 g.datas.length d2) (.slice C2 g.ctrls.length p2)
            rw [hW3]
            rw [hs2] at yg0 yg1 yg2 yg3 yg4 yg5 yg6 yg7 yg8 yg9 yg10 yg11 yg12
            obtain ⟨s5, hs5⟩ : ∃ s5 : Fut W3, s4.val.drew = s5.val := ⟨⟨_, s4.below.drew⟩, rfl⟩
            rw [hs5]
            clear hW2 hW3 hs5 u0 u1 u2 u3 u4 u5 u6 u7 u8 u9 u10 u11 u12 v0 v1 v2 v3 v4 v5 v6 v7 v8 v9 v10 v11 v12 k0 l0
            have ze0 : ∀ t : Fut W3, t.val.cell? ⟨s.val.heap.size, 0, none⟩ = some (.int .i64 e.hart) := fun t => ye0 (s2.up hbx3 t)
            have ze1 : ∀ t : Fut W3, t.val.cell? ⟨s.val.heap.size, 1, none⟩ = some (.int .i64 e.kind) := fun t => ye1 (s2.up hbx3 t)
            have ze2 : ∀ t : Fut W3, t.val.cell? ⟨s.val.heap.size, 2, none⟩ = some (.int .u32 e.addr) := fun t => ye2 (s2.up hbx3 t)
            have ze3 : ∀ t : Fut W3, t.val.cell? ⟨s.val.heap.size, 3, none⟩ = some (.int .u32 e.value) := fun t => ye3 (s2.up hbx3 t)
            have ze4 : ∀ t : Fut W3, t.val.cell? ⟨s.val.heap.size, 4, none⟩ = some (.int .u32 e.readv) := fun t => ye4 (s2.up hbx3 t)
            have ze5 : ∀ t : Fut W3, t.val.cell? ⟨s.val.heap.size, 5, none⟩ = some (.bool e.aq) := fun t => ye5 (s2.up hbx3 t)
            have ze6 : ∀ t : Fut W3, t.val.cell? ⟨s.val.heap.size, 6, none⟩ = some (.bool e.rl) := fun t => ye6 (s2.up hbx3 t)
            have ze7 : ∀ t : Fut W3, t.val.cell? ⟨s.val.heap.size, 7, none⟩ = some (.int .i64 e.pred) := fun t => ye7 (s2.up hbx3 t)
            have ze8 : ∀ t : Fut W3, t.val.cell? ⟨s.val.heap.size, 8, none⟩ = some (.int .i64 e.succ) := fun t => ye8 (s2.up hbx3 t)
            have ze9 : ∀ t : Fut W3, t.val.cell? ⟨s.val.heap.size, 9, none⟩ = some (.bool e.resv) := fun t => ye9 (s2.up hbx3 t)
            have ze10 : ∀ t : Fut W3, t.val.cell? ⟨s.val.heap.size, 10, none⟩ = some (.slice A1 e.addrs.length n1) := fun t => ye10 (s2.up hbx3 t)
            have ze11 : ∀ t : Fut W3, t.val.cell? ⟨s.val.heap.size, 11, none⟩ = some (.slice D1 e.datas.length d1) := fun t => ye11 (s2.up hbx3 t)
            have ze12 : ∀ t : Fut W3, t.val.cell? ⟨s.val.heap.size, 12, none⟩ = some (.slice C1 e.ctrls.length p1) := fun t => ye12 (s2.up hbx3 t)
            clear ye0 ye1 ye2 ye3 ye4 ye5 ye6 ye7 ye8 ye9 ye10 ye11 ye12
            have up : ∀ t : Fut W3, ∃ q : Fut W1, q.val = t.val := fun t => ⟨s.up hbx2 (s2.up hbx3 t), rfl⟩
            have ia' : ∀ t : Fut W3, Ints t.val A1 e.addrs := fun t => by obtain ⟨q, hq⟩ := up t; rw [← hq]; exact ia.fut q
            have id' : ∀ t : Fut W3, Ints t.val D1 e.datas := fun t => by obtain ⟨q, hq⟩ := up t; rw [← hq]; exact id_.fut q
            have ic' : ∀ t : Fut W3, Ints t.val C1 e.ctrls := fun t => by obtain ⟨q, hq⟩ := up t; rw [← hq]; exact ic.fut q
            have ja' : ∀ t : Fut W3, Ints t.val A2 g.addrs := fun t => by obtain ⟨q, hq⟩ := up t; rw [← hq]; exact ja.fut q
            have jd' : ∀ t : Fut W3, Ints t.val D2 g.datas := fun t => by obtain ⟨q, hq⟩ := up t; rw [← hq]; exact jd.fut q
            have jc' : ∀ t : Fut W3, Ints t.val C2 g.ctrls := fun t => by obtain ⟨q, hq⟩ := up t; rw [← hq]; exact jc.fut q
            have UP := Lib.hid up
            clear ia id_ ic ja jd jc up b0' c0
            go_upto_region 12 with (fail)
            simp only [List.append_eq, List.cons_append, List.nil_append]
            refine wp_region_futps s5 ?_
            repeat (first
              | (refine wpQuiet_or rfl rfl rfl rfl ?_; simp only [Act.put, List.setIfInBounds_toArray, List.set_cons_succ, List.set_cons_zero])
              | (refine wpQuiet_and rfl rfl rfl rfl ?_; simp only [Act.put, List.setIfInBounds_toArray, List.set_cons_succ, List.set_cons_zero])
              | go_big_quiet_skip
              | (go_big_quiet_want; go_big_quiet_op; first | go_big_quiet_on | go_big_quiet_call (((go_at_call 42; first | (with_reducible exact (fut_callS _ (sameInts_any _ _ _ _ _ _ _ (ia' _) (ja' _)))) | (with_reducible exact (fut_callS _ (sameInts_any _ _ _ _ _ _ _ (id' _) (jd' _)))) | (with_reducible exact (fut_callS _ (sameInts_any _ _ _ _ _ _ _ (ic' _) (jc' _))))))))
              | (refine wpQuiet_dead (by first | exact wanted_t rfl rfl rfl | exact wanted_f rfl rfl rfl | exact wanted_ts rfl rfl rfl | exact wanted_fs rfl rfl rfl) rfl (of_decide_eq_true rfl) (by simp only [Bool.not_true, Bool.and_false, Bool.false_and, Bool.or_true, Bool.true_or]) ?_; simp only [Act.put, List.setIfInBounds_toArray, List.set_cons_succ, List.set_cons_zero])
              | (refine wpQuiet_or_und rfl (by first | exact wanted_t rfl rfl rfl | exact wanted_f rfl rfl rfl | exact wanted_ts rfl rfl rfl | exact wanted_fs rfl rfl rfl) rfl (of_decide_eq_true rfl) rfl rfl ?_; simp only [Act.put, List.setIfInBounds_toArray, List.set_cons_succ, List.set_cons_zero])
              | (refine wpQuiet_and_und rfl (by first | exact wanted_t rfl rfl rfl | exact wanted_f rfl rfl rfl | exact wanted_ts rfl rfl rfl | exact wanted_fs rfl rfl rfl) rfl (of_decide_eq_true rfl) rfl rfl ?_; simp only [Act.put, List.setIfInBounds_toArray, List.set_cons_succ, List.set_cons_zero])
              | (refine wpQuiet_und (by first | exact wanted_t rfl rfl rfl | exact wanted_f rfl rfl rfl | exact wanted_ts rfl rfl rfl | exact wanted_fs rfl rfl rfl) rfl (of_decide_eq_true rfl) ?_
                 apply Exists.intro
                 refine ⟨fun hb => ?_, ?_⟩
                 · (skip)
                   (try simp only [sel_of hb])
                   (try (have hb1 := and_l hb; (try simp only [sel_of hb1]); (try (have hb2 := and_l hb1; (try simp only [sel_of hb2]); (try (have hb3 := and_l hb2; (try simp only [sel_of hb3])))))))
                   go_big_quiet_op
                   first | ((show Act.eval _ (Operand.tmp _) = _); conv => (lhs; whnf)) | (apply Exists.intro; refine ⟨fun _ => ?_, ?_⟩; (focus ((go_at_call 42; first | (with_reducible exact (fut_callS _ (sameInts_any _ _ _ _ _ _ _ (ia' _) (ja' _)))) | (with_reducible exact (fut_callS _ (sameInts_any _ _ _ _ _ _ _ (id' _) (jd' _)))) | (with_reducible exact (fut_callS _ (sameInts_any _ _ _ _ _ _ _ (ic' _) (jc' _))))))); ((show Act.eval _ (Operand.tmp _) = _); conv => (lhs; whnf)))
                 simp only [Act.put, List.setIfInBounds_toArray, List.set_cons_succ, List.set_cons_zero]))
            refine wpQuiet_nil ?_
            intro s6
            clear ze0 ze1 ze2 ze3 ze4 ze5 ze6 ze7 ze8 ze9 ze10 ze11 ze12 yg0 yg1 yg2 yg3 yg4 yg5 yg6 yg7 yg8 yg9 yg10 yg11 yg12 ia' id' ic' ja' jd' jc'
            obtain ⟨s7, hs7⟩ := UP.out s6
            rw [← hs7]
            clear hs7 s6 UP
            generalize hbb : (e.hart != g.hart || e.kind != g.kind || e.addr != g.addr || e.value != g.value || e.readv != g.readv || !(e.aq == g.aq) || !(e.rl == g.rl) || e.pred != g.pred || e.succ != g.succ || !(e.resv == g.resv) || !decide (e.addrs = g.addrs) || !decide (e.datas = g.datas) || !decide (e.ctrls = g.ctrls)) = bb
            have HBB := Lib.hid hbb
            clear hbb
            cases bb
            · have h := HBB.out
              simp only [Bool.or_eq_false_iff, bne_eq_false_iff_eq, beq_iff_eq, Bool.not_eq_false', decide_eq_true_eq] at h
              obtain ⟨⟨⟨⟨⟨⟨⟨⟨⟨⟨⟨⟨r1, r2⟩, r3⟩, r4⟩, r5⟩, r6⟩, r7⟩, r8⟩, r9⟩, r10⟩, r11⟩, r12⟩, r13⟩ := h
              have HEQ := Lib.hid ((ev_eq_iff e g).2 ⟨r11, r12, r13, r1, r2, r3, r4, r5, r6, r7, r8, r9, r10⟩)
              clear r1 r2 r3 r4 r5 r6 r7 r8 r9 r10 r11 r12 r13
              go_wp2
              go_roundw
              case rel => exact ⟨k + 1, by omega, by go_num, ⟨s7, rfl⟩, fun j hj => by
                by_cases hjk : j = k
                · subst hjk; rw [← HEN.out, ← HGN.out, HEQ.out]
                · exact HALL.out j (by omega)⟩
              case measure => simp [intOf]; omega
            · have hne : ¬ e = g := fun heq => by have := HBB.out; rw [heq] at this; simp at this
              have HN := Lib.hid (decide_eq_false (ne_at zev HEN.out.symm HGN.out.symm hne))
              clear hne
              go_wp2
              go_ret
              exact ⟨ret_bool (by unfold exB; rw [HN.out]; rfl), HEND.out s7⟩
          · obtain ⟨W2, s2, hW2, hbx2, hsz2, yg0, yg1, yg2, yg3, yg4, yg5, yg6, yg7, yg8, yg9, yg10, yg11, yg12⟩ := box13 s.val 44 (.int .i64 g.hart) (.int .i64 g.kind) (.int .u32 g.addr) (.int .u32 g.value) (.int .u32 g.readv) (.bool g.aq) (.bool g.rl) (.int .i64 g.pred) (.int .i64 g.succ) (.bool g.resv) (.slice A2 g.addrs.length n2) (.slice D2 g.datas.length d2) (.slice C2 g.ctrls.length p2)
            rw [hW2]
            have hs2 : s2.val.heap.size = s.val.heap.size + 1 := by rw [← hW2]; simp
            obtain ⟨W3, s4, hW3, hbx3, hsz3, ye0, ye1, ye2, ye3, ye4, ye5, ye6, ye7, ye8, ye9, ye10, ye11, ye12⟩ := box13 s2.val 44 (.int .i64 e.hart) (.int .i64 e.kind) (.int .u32 e.addr) (.int .u32 e.value) (.int .u32 e.readv) (.bool e.aq) (.bool e.rl) (.int .i64 e.pred) (.int .i64 e.succ) (.bool e.resv) (.slice A1 e.addrs.length n1) (.slice D1 e.datas.length d1) (.slice C1 e.ctrls.length p1)
            rw [hW3]
            rw [hs2] at ye0 ye1 ye2 ye3 ye4 ye5 ye6 ye7 ye8 ye9 ye10 ye11 ye12
            obtain ⟨s5, hs5⟩ : ∃ s5 : Fut W3, s4.val.drew = s5.val := ⟨⟨_, s4.below.drew⟩, rfl⟩
            rw [hs5]
            clear hW2 hW3 hs5 u0 u1 u2 u3 u4 u5 u6 u7 u8 u9 u10 u11 u12 v0 v1 v2 v3 v4 v5 v6 v7 v8 v9 v10 v11 v12 k0 l0
            have zg0 : ∀ t : Fut W3, t.val.cell? ⟨s.val.heap.size, 0, none⟩ = some (.int .i64 g.hart) := fun t => yg0 (s2.up hbx3 t)
            have zg1 : ∀ t : Fut W3, t.val.cell? ⟨s.val.heap.size, 1, none⟩ = some (.int .i64 g.kind) := fun t => yg1 (s2.up hbx3 t)
            have zg2 : ∀ t : Fut W3, t.val.cell? ⟨s.val.heap.size, 2, none⟩ = some (.int .u32 g.addr) := fun t => yg2 (s2.up hbx3 t)
            have zg3 : ∀ t : Fut W3, t.val.cell? ⟨s.val.heap.size, 3, none⟩ = some (.int .u32 g.value) := fun t => yg3 (s2.up hbx3 t)
            have zg4 : ∀ t : Fut W3, t.val.cell? ⟨s.val.heap.size, 4, none⟩ = some (.int .u32 g.readv) := fun t => yg4 (s2.up hbx3 t)
            have zg5 : ∀ t : Fut W3, t.val.cell? ⟨s.val.heap.size, 5, none⟩ = some (.bool g.aq) := fun t => yg5 (s2.up hbx3 t)
            have zg6 : ∀ t : Fut W3, t.val.cell? ⟨s.val.heap.size, 6, none⟩ = some (.bool g.rl) := fun t => yg6 (s2.up hbx3 t)
            have zg7 : ∀ t : Fut W3, t.val.cell? ⟨s.val.heap.size, 7, none⟩ = some (.int .i64 g.pred) := fun t => yg7 (s2.up hbx3 t)
            have zg8 : ∀ t : Fut W3, t.val.cell? ⟨s.val.heap.size, 8, none⟩ = some (.int .i64 g.succ) := fun t => yg8 (s2.up hbx3 t)
            have zg9 : ∀ t : Fut W3, t.val.cell? ⟨s.val.heap.size, 9, none⟩ = some (.bool g.resv) := fun t => yg9 (s2.up hbx3 t)
            have zg10 : ∀ t : Fut W3, t.val.cell? ⟨s.val.heap.size, 10, none⟩ = some (.slice A2 g.addrs.length n2) := fun t => yg10 (s2.up hbx3 t)
            have zg11 : ∀ t : Fut W3, t.val.cell? ⟨s.val.heap.size, 11, none⟩ = some (.slice D2 g.datas.length d2) := fun t => yg11 (s2.up hbx3 t)
            have zg12 : ∀ t : Fut W3, t.val.cell? ⟨s.val.heap.size, 12, none⟩ = some (.slice C2 g.ctrls.length p2) := fun t => yg12 (s2.up hbx3 t)
            clear yg0 yg1 yg2 yg3 yg4 yg5 yg6 yg7 yg8 yg9 yg10 yg11 yg12
            have up : ∀ t : Fut W3, ∃ q : Fut W1, q.val = t.val := fun t => ⟨s.up hbx2 (s2.up hbx3 t), rfl⟩
            have ia' : ∀ t : Fut W3, Ints t.val A1 e.addrs := fun t => by obtain ⟨q, hq⟩ := up t; rw [← hq]; exact ia.fut q
            have id' : ∀ t : Fut W3, Ints t.val D1 e.datas := fun t => by obtain ⟨q, hq⟩ := up t; rw [← hq]; exact id_.fut q
            have ic' : ∀ t : Fut W3, Ints t.val C1 e.ctrls := fun t => by obtain ⟨q, hq⟩ := up t; rw [← hq]; exact ic.fut q
            have ja' : ∀ t : Fut W3, Ints t.val A2 g.addrs := fun t => by obtain ⟨q, hq⟩ := up t; rw [← hq]; exact ja.fut q
            have jd' : ∀ t : Fut W3, Ints t.val D2 g.datas := fun t => by obtain ⟨q, hq⟩ := up t; rw [← hq]; exact jd.fut q
            have jc' : ∀ t : Fut W3, Ints t.val C2 g.ctrls := fun t => by obtain ⟨q, hq⟩ := up t; rw [← hq]; exact jc.fut q
            have UP := Lib.hid up
            clear ia id_ ic ja jd jc up b0' c0
            go_upto_region 12 with (fail)
            simp only [List.append_eq, List.cons_append, List.nil_append]
            refine wp_region_futps s5 ?_
            repeat (first
              | (refine wpQuiet_or rfl rfl rfl rfl ?_; simp only [Act.put, List.setIfInBounds_toArray, List.set_cons_succ, List.set_cons_zero])
              | (refine wpQuiet_and rfl rfl rfl rfl ?_; simp only [Act.put, List.setIfInBounds_toArray, List.set_cons_succ, List.set_cons_zero])
              | go_big_quiet_skip
              | (go_big_quiet_want; go_big_quiet_op; first | go_big_quiet_on | go_big_quiet_call (((go_at_call 42; first | (with_reducible exact (fut_callS _ (sameInts_any _ _ _ _ _ _ _ (ia' _) (ja' _)))) | (with_reducible exact (fut_callS _ (sameInts_any _ _ _ _ _ _ _ (id' _) (jd' _)))) | (with_reducible exact (fut_callS _ (sameInts_any _ _ _ _ _ _ _ (ic' _) (jc' _))))))))
              | (refine wpQuiet_dead (by first | exact wanted_t rfl rfl rfl | exact wanted_f rfl rfl rfl | exact wanted_ts rfl rfl rfl | exact wanted_fs rfl rfl rfl) rfl (of_decide_eq_true rfl) (by simp only [Bool.not_true, Bool.and_false, Bool.false_and, Bool.or_true, Bool.true_or]) ?_; simp only [Act.put, List.setIfInBounds_toArray, List.set_cons_succ, List.set_cons_zero])
              | (refine wpQuiet_or_und rfl (by first | exact wanted_t rfl rfl rfl | exact wanted_f rfl rfl rfl | exact wanted_ts rfl rfl rfl | exact wanted_fs rfl rfl rfl) rfl (of_decide_eq_true rfl) rfl rfl ?_; simp only [Act.put, List.setIfInBounds_toArray, List.set_cons_succ, List.set_cons_zero])
              | (refine wpQuiet_and_und rfl (by first | exact wanted_t rfl rfl rfl | exact wanted_f rfl rfl rfl | exact wanted_ts rfl rfl rfl | exact wanted_fs rfl rfl rfl) rfl (of_decide_eq_true rfl) rfl rfl ?_; simp only [Act.put, List.setIfInBounds_toArray, List.set_cons_succ, List.set_cons_zero])
              | (refine wpQuiet_und (by first | exact wanted_t rfl rfl rfl | exact wanted_f rfl rfl rfl | exact wanted_ts rfl rfl rfl | exact wanted_fs rfl rfl rfl) rfl (of_decide_eq_true rfl) ?_
                 apply Exists.intro
                 refine ⟨fun hb => ?_, ?_⟩
                 · (skip)
                   (try simp only [sel_of hb])
                   (try (have hb1 := and_l hb; (try simp only [sel_of hb1]); (try (have hb2 := and_l hb1; (try simp only [sel_of hb2]); (try (have hb3 := and_l hb2; (try simp only [sel_of hb3])))))))
                   go_big_quiet_op
                   first | ((show Act.eval _ (Operand.tmp _) = _); conv => (lhs; whnf)) | (apply Exists.intro; refine ⟨fun _ => ?_, ?_⟩; (focus ((go_at_call 42; first | (with_reducible exact (fut_callS _ (sameInts_any _ _ _ _ _ _ _ (ia' _) (ja' _)))) | (with_reducible exact (fut_callS _ (sameInts_any _ _ _ _ _ _ _ (id' _) (jd' _)))) | (with_reducible exact (fut_callS _ (sameInts_any _ _ _ _ _ _ _ (ic' _) (jc' _))))))); ((show Act.eval _ (Operand.tmp _) = _); conv => (lhs; whnf)))
                 simp only [Act.put, List.setIfInBounds_toArray, List.set_cons_succ, List.set_cons_zero]))
            refine wpQuiet_nil ?_
            intro s6
            clear zg0 zg1 zg2 zg3 zg4 zg5 zg6 zg7 zg8 zg9 zg10 zg11 zg12 ye0 ye1 ye2 ye3 ye4 ye5 ye6 ye7 ye8 ye9 ye10 ye11 ye12 ia' id' ic' ja' jd' jc'
            obtain ⟨s7, hs7⟩ := UP.out s6
            rw [← hs7]
            clear hs7 s6 UP
            generalize hbb : (e.hart != g.hart || e.kind != g.kind || e.addr != g.addr || e.value != g.value || e.readv != g.readv || !(e.aq == g.aq) || !(e.rl == g.rl) || e.pred != g.pred || e.succ != g.succ || !(e.resv == g.resv) || !decide (e.addrs = g.addrs) || !decide (e.datas = g.datas) || !decide (e.ctrls = g.ctrls)) = bb
            have HBB := Lib.hid hbb
            clear hbb
            cases bb
            · have h := HBB.out
              simp only [Bool.or_eq_false_iff, bne_eq_false_iff_eq, beq_iff_eq, Bool.not_eq_false', decide_eq_true_eq] at h
              obtain ⟨⟨⟨⟨⟨⟨⟨⟨⟨⟨⟨⟨r1, r2⟩, r3⟩, r4⟩, r5⟩, r6⟩, r7⟩, r8⟩, r9⟩, r10⟩, r11⟩, r12⟩, r13⟩ := h
              have HEQ := Lib.hid ((ev_eq_iff e g).2 ⟨r11, r12, r13, r1, r2, r3, r4, r5, r6, r7, r8, r9, r10⟩)
              clear r1 r2 r3 r4 r5 r6 r7 r8 r9 r10 r11 r12 r13
              go_wp2
              go_roundw
              case rel => exact ⟨k + 1, by omega, by go_num, ⟨s7, rfl⟩, fun j hj => by
                by_cases hjk : j = k
                · subst hjk; rw [← HEN.out, ← HGN.out, HEQ.out]
                · exact HALL.out j (by omega)⟩
              case measure => simp [intOf]; omega
            · have hne : ¬ e = g := fun heq => by have := HBB.out; rw [heq] at this; simp at this
              have HN := Lib.hid (decide_eq_false (ne_at zev HEN.out.symm HGN.out.symm hne))
              clear hne
              go_wp2
              go_ret
              exact ⟨ret_bool (by unfold exB; rw [HN.out]; rfl), HEND.out s7⟩
        · obtain rfl : k = x.evs.length := by omega
          go_wp2
          go_ret
          exact ⟨ret_bool (by unfold exB; rw [decide_eq_true HO.out, decide_eq_true HS.out, decide_eq_true (eq_at zev HL1.out HALL.out)]; rfl), HEND.out s⟩
end Go.Proofs.Ytacnbdnmkmpldaa
