/- EventsNear: the law's walk. -/
import Derived.Test.YtacnbdnmkmpldaaNrH
import Derived.Test.YtacnbdnmkmpldaaRCh
import Derived.Test.YtacnbdnmkmpldaaEvH
import Derived.Test.YtacnbdnmkmpldaaWd
import Derived.Test.YtacnbdnmkmpldaaKn
namespace Go.Proofs.Ytacnbdnmkmpldaa
open Go Go.Proofs Go.RowKit Q
set_option linter.unusedSimpArgs false
set_option linter.unusedVariables false

theorem lexNear : Region.lexB .any (opsOf Try.f6 13) = true := by kernel_rfl
theorem tiny_of {x : Ex} (h : Narrow x) : Tiny x where
  evs := by have := h.1; omega
  src := by have := h.2.1; omega
  order := by have := h.2.2.1; omega
  row := fun l hl => by
    obtain ⟨k, hk, rfl⟩ := List.getElem_of_mem hl
    have := h.2.2.2.1 k hk
    rw [List.getElem?_eq_getElem hk] at this
    have h2 : x.order[k].length ≤ 400 := this
    omega

set_option maxRecDepth 100000 in
set_option maxHeartbeats 4000000 in
theorem evNear_walk (x : Ex) (hok : ExOk x) (Ae Af Ao : Option Addr) (ce cf co : Nat) (w : World) (he : Evs w Ae x.evs) (hf : Ints w Af x.src) (ho : Q.Rows w Ao x.order) :
    Calls Try.prog 6 #[.agg #[.slice Ae x.evs.length ce, .slice Af x.src.length cf, .slice Ao x.order.length co]] w fun r w' => r = .returned (.bool true) ∧ Below w.heap.size w w' := by
  have hx0 := he.1
  go_enter Try.func6, Try.ntmps6
  go_upto_region 1 with (fail)
  obtain ⟨W0, s0, hW0, hbx, hsz, b0, b1, b2⟩ := box3 w 26 (.slice Ae x.evs.length ce) (.slice Af x.src.length cf) (.slice Ao x.order.length co)
  rw [hW0]
  clear hW0
  have he0 := he.below hbx
  have hf1 := hf.below hbx
  have ho1 := ho.below hbx
  have hend : ∀ s : Fut W0, Below w.heap.size w s.val := fun s => hbx.trans (s.below.mono (Nat.le_of_lt hsz))
  have HEND := Lib.hid hend
  have HWX := Lib.hid (fun s : Fut W0 => wide_any x Ae Af Ao ce cf co s.val (he0.fut s) (hf1.fut s) (ho1.fut s))
  have HCH := Lib.hid (fun (ht : Tiny x) (s : Fut W0) (i how by_ : Nat) hi hi10 hh hb => changed_any x hok ht Ae Af Ao ce cf co i how by_ hi hi10 hh hb s.val (he0.fut s) (hf1.fut s) (ho1.fut s))
  clear he hf ho hend hf1 ho1 he0
  have d0 := b0 s0
  have d1 := b1 s0
  have d2 := b2 s0
  go_wp2_with fail
  refine (HWX.out s0).mono ?_
  rintro e w1 ⟨b, rfl, hnw, hb1⟩
  obtain ⟨s1, rfl⟩ : ∃ s1 : Fut W0, w1 = s1.val := ⟨⟨w1, s0.below.trans (hb1.mono s0.below.size)⟩, rfl⟩
  have HNW := Lib.hid hnw
  clear hb1 d0 d1 d2 hnw
  have d0 := b0 s1
  have d1 := b1 s1
  have d2 := b2 s1
  cases b
  case true =>
    go_wp2_with (go_at_call 10; refine (known_any _).mono ?_; rintro e w' ⟨rfl, hb⟩)
    go_ret
    exact ⟨rfl, (HEND.out s1).trans (hb.mono (HEND.out s1).size)⟩
  by_cases h10 : 10 < x.evs.length
  · have q : decide ((10 : Int) < (x.evs.length : Int)) = true := decide_eq_true (by omega)
    go_wp2_with (go_at_call 10; refine (known_any _).mono ?_; rintro e w' ⟨rfl, hb⟩)
    go_ret
    exact ⟨rfl, (HEND.out s1).trans (hb.mono (HEND.out s1).size)⟩
  have q10 : decide ((10 : Int) < (x.evs.length : Int)) = false := decide_eq_false (by omega)
  have HTY := Lib.hid (tiny_of (HNW.out rfl))
  go_upto_region 4 with (fail)
  clear d0 d1 d2
  go_loopw [3] (fun i wr => ∃ k : Nat, k ≤ x.evs.length ∧ i = .int .i64 k ∧ ∃ s : Fut W0, wr = s.val) (fun i _ => x.evs.length - (intOf i).toNat)
  case atStart => exact ⟨0, Nat.zero_le _, rfl, s1, rfl⟩
  case round =>
    obtain ⟨i, hi, rfl, s, rfl⟩ := hrel
    have u0 := b0 s
    by_cases hil : i < x.evs.length
    case neg =>
      go_wp2_with (go_at_call 10; refine (known_any _).mono ?_; rintro e w' ⟨rfl, hb⟩)
      go_ret
      exact ⟨rfl, (HEND.out s).trans (hb.mono (HEND.out s).size)⟩
    go_upto_region 7 with (fail)
    clear u0
    go_loopw [4] (fun h wr => ∃ k : Nat, k ≤ 15 ∧ h = .int .i64 k ∧ ∃ s : Fut W0, wr = s.val) (fun h _ => 15 - (intOf h).toNat)
    case atStart => exact ⟨0, Nat.zero_le _, rfl, s, rfl⟩
    case round =>
      obtain ⟨how, hh, rfl, s2, rfl⟩ := hrel
      by_cases hhl : how < 15
      case neg =>
        obtain rfl : how = 15 := by omega
        go_wp2
        go_roundw
        case rel => exact ⟨i + 1, by omega, by go_num, s2, rfl⟩
        case measure => simp [intOf]; omega
      have qh : (how : Int) < 15 := by omega
      go_upto_region 10 with (fail)
      go_loopw [5] (fun h wr => ∃ k : Nat, k ≤ 7 ∧ h = .int .i64 k ∧ ∃ s : Fut W0, wr = s.val) (fun h _ => 7 - (intOf h).toNat)
      case atStart => exact ⟨0, Nat.zero_le _, rfl, s2, rfl⟩
      case round =>
        obtain ⟨by_, hb, rfl, s3, rfl⟩ := hrel
        by_cases hbl : by_ < 7
        case neg =>
          obtain rfl : by_ = 7 := by omega
          go_wp2
          go_roundw
          case rel => exact ⟨how + 1, by omega, by go_num, s3, rfl⟩
          case measure => simp [intOf]; omega
        have qb : (by_ : Int) < 7 := by omega
        have v0 := b0 s3
        have v1 := b1 s3
        have v2 := b2 s3
        have HC := Lib.hid (HCH.out HTY.out s3 i how by_ hil (by omega) hhl hbl)
        go_upto_region 13 with (go_at_call 16; refine HC.out.mono ?_; rintro e w5 ⟨y, Be, de, Bf, df, Bo, do_, rfl, hy, hoky, hb5⟩)
        obtain ⟨W3, s4, hW3, hbx3, hsz3, g0, g1, g2⟩ := box3 w5 26 (.slice Be y.evs.length de) (.slice Bf y.src.length df) (.slice Bo y.order.length do_)
        rw [hW3]
        have hy3 := hy.below hbx3
        have HCK := Lib.hid (fun s : Fut W3 => check_any y hoky Be Bf Bo de df do_ s.val (hy3.evs.fut s) (hy3.src.fut s) (hy3.order.fut s))
        have HRC := Lib.hid (fun s : Fut W3 => rcheck_any y hoky Be Bf Bo de df do_ s.val (hy3.evs.fut s) (hy3.src.fut s) (hy3.order.fut s))
        have hup : ∀ s : Fut W3, Below W0.heap.size W0 s.val := fun s => s3.below.trans ((hb5.trans ((hbx3.trans (s.below.mono (Nat.le_of_lt hsz3))).mono hb5.size)).mono s3.below.size)
        have HUP := Lib.hid hup
        have hq : (checkV y != checkV y) = false := by simp
        have hq2 : (checkV y == checkV y) = true := by simp
        generalize checkV y = cv at HCK HRC hq hq2
        clear hW3 hy hy3 hoky hb5 hbx3 hsz3 hup v0 v1 v2 HC
        refine wp_region_futs s4 (by kernel_rfl) (lexOf lexNear (by kernel_rfl)) ?_
        repeat (go_big_quiet_step (first | (go_at_call 11; exact fut_callS _ (HCK.out _)) | (go_at_call 12; exact fut_callS _ (HRC.out _))))
        refine wpQuiet_nil ?_
        intro s5
        go_wp2
        go_roundw
        case rel => exact ⟨by_ + 1, by omega, by go_num, ⟨s5.val, HUP.out s5⟩, rfl⟩
        case measure => simp [intOf]; omega
end Go.Proofs.Ytacnbdnmkmpldaa
