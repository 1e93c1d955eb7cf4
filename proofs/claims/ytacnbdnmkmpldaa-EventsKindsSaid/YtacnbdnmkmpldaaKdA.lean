/- EventsKinds: the law's walk. -/
import Derived.Test.YtacnbdnmkmpldaaSmR
import Derived.Test.YtacnbdnmkmpldaaWd
import Derived.Test.YtacnbdnmkmpldaaKn
namespace Go.Proofs.Ytacnbdnmkmpldaa
open Go Go.Proofs Go.RowKit Q
set_option linter.unusedSimpArgs false
set_option linter.unusedVariables false

theorem lexKinds6 : Region.lexB .any (opsOf Try.f7 6) = true := by kernel_rfl
theorem lexKinds8 : Region.lexB .any (opsOf Try.f7 8) = true := by kernel_rfl

set_option maxRecDepth 100000 in
set_option maxHeartbeats 4000000 in
theorem evKinds_walk (x y : Ex) (Ae Af Ao Be Bf Bo : Option Addr) (ce cf co de df do_ : Nat) (w : World) (he : Evs w Ae x.evs) (hf : Ints w Af x.src) (ho : Q.Rows w Ao x.order) (ge : Evs w Be y.evs) (gf : Ints w Bf y.src) (go : Q.Rows w Bo y.order) :
    Calls Try.prog 7 #[.agg #[.slice Ae x.evs.length ce, .slice Af x.src.length cf, .slice Ao x.order.length co], .agg #[.slice Be y.evs.length de, .slice Bf y.src.length df, .slice Bo y.order.length do_]] w fun r w' => r = .returned (.bool true) ∧ Below w.heap.size w w' := by
  have hx0 := he.1
  go_enter Try.func7, Try.ntmps7
  go_upto_region 1 with (fail)
  obtain ⟨W0, s0, hW0, hbx, hsz, b0, b1, b2⟩ := box3 w 26 (.slice Ae x.evs.length ce) (.slice Af x.src.length cf) (.slice Ao x.order.length co)
  rw [hW0]
  obtain ⟨W1, s1, hW1, hbx1, hsz1, c0, c1, c2⟩ := box3 s0.val 26 (.slice Be y.evs.length de) (.slice Bf y.src.length df) (.slice Bo y.order.length do_)
  rw [hW1]
  have hs0 : s0.val.heap.size = w.heap.size + 1 := by rw [← hW0]; simp
  rw [hs0] at c0 c1 c2
  clear hW0 hW1
  have b0' : ∀ s : Fut W1, s.val.cell? ⟨w.heap.size, 0, none⟩ = some (.slice Ae x.evs.length ce) := fun s => b0 (s0.up hbx1 s)
  have b1' : ∀ s : Fut W1, s.val.cell? ⟨w.heap.size, 1, none⟩ = some (.slice Af x.src.length cf) := fun s => b1 (s0.up hbx1 s)
  have b2' : ∀ s : Fut W1, s.val.cell? ⟨w.heap.size, 2, none⟩ = some (.slice Ao x.order.length co) := fun s => b2 (s0.up hbx1 s)
  have hB1 : Below w.heap.size w W1 := hbx.trans ((s0.below.mono (Nat.le_of_lt hsz)).trans (hbx1.mono (Nat.le_trans hbx.size s0.below.size)))
  have h1 := he.below hB1
  have h2 := hf.below hB1
  have h3 := ho.below hB1
  have h4 := ge.below hB1
  have h5 := gf.below hB1
  have h6 := go.below hB1
  have hend : ∀ s : Fut W1, Below w.heap.size w s.val := fun s => hB1.trans (s.below.mono hB1.size)
  have HEND := Lib.hid hend
  have HWX := Lib.hid (fun s : Fut W1 => wide_any x Ae Af Ao ce cf co s.val (h1.fut s) (h2.fut s) (h3.fut s))
  have HWY := Lib.hid (fun s : Fut W1 => wide_any y Be Bf Bo de df do_ s.val (h4.fut s) (h5.fut s) (h6.fut s))
  have HSS := Lib.hid (fun s : Fut W1 => exSame_any x x Ae Af Ao Ae Af Ao ce cf co ce cf co s.val (h1.fut s) (h2.fut s) (h3.fut s) (h1.fut s) (h2.fut s) (h3.fut s))
  have hS : ∀ s : Fut W1, Calls Try.prog 21 #[.agg #[.slice Ae x.evs.length ce, .slice Af x.src.length cf, .slice Ao x.order.length co], .agg #[.slice Be y.evs.length de, .slice Bf y.src.length df, .slice Bo y.order.length do_]] s.val fun r w' => r = .returned (.bool (exB x y)) ∧ Below s.val.heap.size s.val w' := fun s => exSame_any x y Ae Af Ao Be Bf Bo ce cf co de df do_ s.val (h1.fut s) (h2.fut s) (h3.fut s) (h4.fut s) (h5.fut s) (h6.fut s)
  have hR : ∀ s : Fut W1, Calls Try.prog 22 #[.agg #[.slice Ae x.evs.length ce, .slice Af x.src.length cf, .slice Ao x.order.length co], .agg #[.slice Be y.evs.length de, .slice Bf y.src.length df, .slice Bo y.order.length do_]] s.val fun r w' => r = .returned (.bool (exB x y)) ∧ Below s.val.heap.size s.val w' := fun s => refSame_any x y Ae Af Ao Be Bf Bo ce cf co de df do_ s.val (h1.fut s) (h2.fut s) (h3.fut s) (h4.fut s) (h5.fut s) (h6.fut s)
  generalize exB x y = v at hS hR
  have HS := Lib.hid hS
  have HR := Lib.hid hR
  clear b0 b1 b2 he hf ho ge gf go hend hbx hbx1 hB1 hsz hsz1 h2 h3 h4 h5 h6 hS hR
  have k0 := b0' s1
  have k1 := b1' s1
  have k2 := b2' s1
  go_wp2_with fail
  refine (HWX.out s1).mono ?_
  rintro e w1 ⟨b, rfl, _, hb1⟩
  obtain ⟨s2, rfl⟩ : ∃ s2 : Fut W1, w1 = s2.val := ⟨⟨w1, s1.below.trans (hb1.mono s1.below.size)⟩, rfl⟩
  clear hb1 k0 k1 k2
  cases b
  case true =>
    go_wp2_with (go_at_call 10; refine (known_any _).mono ?_; rintro e w' ⟨rfl, hb⟩)
    go_ret
    exact ⟨rfl, (HEND.out s2).trans (hb.mono (HEND.out s2).size)⟩
  have l0 := c0 s2
  have l1 := c1 s2
  have l2 := c2 s2
  go_wp2_with fail
  refine (HWY.out s2).mono ?_
  rintro e w1 ⟨b, rfl, _, hb1⟩
  obtain ⟨s3, rfl⟩ : ∃ s3 : Fut W1, w1 = s3.val := ⟨⟨w1, s2.below.trans (hb1.mono s2.below.size)⟩, rfl⟩
  clear hb1 l0 l1 l2
  cases b
  case true =>
    go_wp2_with (go_at_call 10; refine (known_any _).mono ?_; rintro e w' ⟨rfl, hb⟩)
    go_ret
    exact ⟨rfl, (HEND.out s3).trans (hb.mono (HEND.out s3).size)⟩
  go_upto_region 4 with (fail)
  go_loopw [5] (fun i wr => ∃ k : Nat, k ≤ x.evs.length ∧ i = .int .i64 k ∧ ∃ s : Fut W1, wr = s.val) (fun i _ => x.evs.length - (intOf i).toNat)
  case atStart => exact ⟨0, Nat.zero_le _, rfl, s3, rfl⟩
  case round =>
    obtain ⟨k, hk, rfl, s, rfl⟩ := hrel
    have k0 := b0' s
    by_cases hkl : k < x.evs.length
    · obtain ⟨be, oe, rfl, _⟩ := h1.2 (by omega)
      obtain ⟨e, hen⟩ : ∃ e, e = x.evs[k]?.getD zev := ⟨_, rfl⟩
      have hE := h1.at k hkl
      rw [← hen] at hE
      obtain ⟨A1, n1, D1, d1, C1, p1, f0, f1, f2, f3, f4, f5, f6, f7, f8, f9, f10, f11, f12, _, _, _⟩ := hE.facts
      have hL : ∀ s : Fut W1, Calls Try.prog 19 #[.agg #[.int .i64 e.hart, .int .i64 e.kind, .int .u32 e.addr, .int .u32 e.value, .int .u32 e.readv, .bool e.aq, .bool e.rl, .int .i64 e.pred, .int .i64 e.succ, .bool e.resv, .slice A1 e.addrs.length n1, .slice D1 e.datas.length d1, .slice C1 e.ctrls.length p1]] s.val fun r w' => r = .returned (.bool (e.kind == 1 || e.kind == 3)) ∧ Below s.val.heap.size s.val w' := fun s => loads_any _ _ _ _ _ _ _ _ _ _ _ _ _ _
      have hL' : ∀ s : Fut W1, Calls Try.prog 20 #[.agg #[.int .i64 e.hart, .int .i64 e.kind, .int .u32 e.addr, .int .u32 e.value, .int .u32 e.readv, .bool e.aq, .bool e.rl, .int .i64 e.pred, .int .i64 e.succ, .bool e.resv, .slice A1 e.addrs.length n1, .slice D1 e.datas.length d1, .slice C1 e.ctrls.length p1]] s.val fun r w' => r = .returned (.bool (e.kind == 1 || e.kind == 3)) ∧ Below s.val.heap.size s.val w' := fun s => rloads_any _ _ _ _ _ _ _ _ _ _ _ _ _ _
      have hT : ∀ s : Fut W1, Calls Try.prog 17 #[.agg #[.int .i64 e.hart, .int .i64 e.kind, .int .u32 e.addr, .int .u32 e.value, .int .u32 e.readv, .bool e.aq, .bool e.rl, .int .i64 e.pred, .int .i64 e.succ, .bool e.resv, .slice A1 e.addrs.length n1, .slice D1 e.datas.length d1, .slice C1 e.ctrls.length p1]] s.val fun r w' => r = .returned (.bool (e.kind == 2 || e.kind == 3 || e.kind == 5)) ∧ Below s.val.heap.size s.val w' := fun s => stores_any _ _ _ _ _ _ _ _ _ _ _ _ _ _
      have hT' : ∀ s : Fut W1, Calls Try.prog 18 #[.agg #[.int .i64 e.hart, .int .i64 e.kind, .int .u32 e.addr, .int .u32 e.value, .int .u32 e.readv, .bool e.aq, .bool e.rl, .int .i64 e.pred, .int .i64 e.succ, .bool e.resv, .slice A1 e.addrs.length n1, .slice D1 e.datas.length d1, .slice C1 e.ctrls.length p1]] s.val fun r w' => r = .returned (.bool (e.kind == 2 || e.kind == 3 || e.kind == 5)) ∧ Below s.val.heap.size s.val w' := fun s => rstores_any _ _ _ _ _ _ _ _ _ _ _ _ _ _
      generalize (e.kind == 1 || e.kind == 3) = L at hL hL'
      generalize (e.kind == 2 || e.kind == 3 || e.kind == 5) = T at hT hT'
      have HL := Lib.hid hL
      have HL' := Lib.hid hL'
      have HT := Lib.hid hT
      have HT' := Lib.hid hT'
      have qa : (L == L) = true := by simp
      have qb : (L != L) = false := by simp
      have qc : (T == T) = true := by simp
      have qd : (T != T) = false := by simp
      clear hE hen h1 hL hL' hT hT' b1' b2' c0 c1 c2 k0
      go_upto_region 6 with (fail)
      refine wp_region_futs s (by kernel_rfl) (lexOf lexKinds6 (by kernel_rfl)) ?_
      repeat (go_big_quiet_step (first | (go_at_call 19; exact fut_callS _ (HL.out _)) | (go_at_call 20; exact fut_callS _ (HL'.out _)) | (go_at_call 17; exact fut_callS _ (HT.out _)) | (go_at_call 18; exact fut_callS _ (HT'.out _))))
      refine wpQuiet_nil ?_
      intro s4
      go_wp2
      go_roundw
      case rel => exact ⟨k + 1, by omega, by go_num, s4, rfl⟩
      case measure => simp [intOf]; omega
    · obtain rfl : k = x.evs.length := by omega
      have HSS' := Lib.hid (fun s : Fut W1 => by have h := HSS.out s; rw [exB_self] at h; exact h)
      have qa : (v == v) = true := by simp
      clear HSS
      go_upto_region 8 with (fail)
      refine wp_region_futs s (by kernel_rfl) (lexOf lexKinds8 (by kernel_rfl)) ?_
      repeat (go_big_quiet_step (first | (go_at_call 21; first | (with_reducible exact (fut_callS _ (HS.out _))) | (with_reducible exact (fut_callS _ (HSS'.out _)))) | (go_at_call 22; exact fut_callS _ (HR.out _)) | (go_at_call 10; exact fut_callS _ (known_any _))))
      refine wpQuiet_nil ?_
      intro s4
      go_wp2
      go_ret
      exact ⟨by simp, HEND.out s4⟩
end Go.Proofs.Ytacnbdnmkmpldaa
