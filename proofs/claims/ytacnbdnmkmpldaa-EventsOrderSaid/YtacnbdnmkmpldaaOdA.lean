/- EventsOrder: the law's walk. -/
import Derived.Test.YtacnbdnmkmpldaaCoP
import Derived.Test.YtacnbdnmkmpldaaWd
import Derived.Test.YtacnbdnmkmpldaaKn
import Derived.Deep.RegionHeld3
import Derived.Deep.DeepCutAuto
namespace Go.Proofs.Ytacnbdnmkmpldaa
open Go Go.Proofs Go.RowKit Q
set_option linter.unusedSimpArgs false
set_option linter.unusedVariables false

theorem zero48 : (Try.zeroCells48).toList = List.replicate 576 (.bool false) := by kernel_rfl
/-- A table of 24 by 24 flags in block B. -/
def TabAt (W : World) (B : Nat) (g : Nat → Nat → Bool) : Prop := ∃ cur : Array Value, W.heap[B]? = some (.cells cur 48 (0, 0)) ∧ ∀ a b : Nat, a < 24 → b < 24 → cur[a * 24 + b]? = some (.bool (g a b))
theorem TabAt.cell {W : World} {B : Nat} {g : Nat → Nat → Bool} (h : TabAt W B g) {a b : Nat} (ha : a < 24) (hb : b < 24) : W.cell? ⟨B, a * 24 + b, none⟩ = some (.bool (g a b)) := by
  obtain ⟨cur, hk, hc⟩ := h
  have := hc a b ha hb
  simp [World.cell?, hk, this]
theorem TabAt.frozen {W : World} {B : Nat} {g : Nat → Nat → Bool} (h : TabAt W B g) (j : Nat) : W.frozen? ⟨B, j, none⟩ = false := by
  obtain ⟨cur, hb, hc⟩ := h
  simp [World.frozen?, hb]
theorem TabAt.set {W : World} {B : Nat} {g : Nat → Nat → Bool} (h : TabAt W B g) {p q : Nat} (hp : p < 24) (hq : q < 24) : TabAt (W.setCell ⟨B, p * 24 + q, none⟩ (.bool true)) B (fun a b => if a = p ∧ b = q then true else g a b) := by
  obtain ⟨cur, hb, hc⟩ := h
  obtain ⟨hlt, hk⟩ := Array.getElem?_eq_some_iff.1 hb
  have hps := (Array.getElem?_eq_some_iff.1 (hc p q hp hq)).1
  refine ⟨cur.setIfInBounds (p * 24 + q) (.bool true), ?_, fun a b ha hb' => ?_⟩
  · show (W.heap.modify B _)[B]? = _
    rw [Array.getElem?_eq_getElem (by rw [Array.size_modify]; exact hlt), Array.getElem_modify_self, hk]
    rfl
  · by_cases hab : a = p ∧ b = q
    · obtain ⟨rfl, rfl⟩ := hab
      rw [Array.getElem?_setIfInBounds_self_of_lt hps]
      simp
    · rw [Array.getElem?_setIfInBounds_ne (by omega), hc a b ha hb']
      show some (Value.bool (g a b)) = some (Value.bool (if a = p ∧ b = q then true else g a b))
      rw [if_neg hab]
theorem TabAt.zero (W : World) : TabAt (W.alloc (.cells Try.zeroCells48 48)) W.heap.size (fun _ _ => false) := by
  refine ⟨_, World.alloc_heap_new W _, fun a b ha hb => ?_⟩
  rw [← Array.getElem?_toList, zero48, List.getElem?_replicate, if_pos (by omega)]
theorem TabAt.drew {W : World} {B : Nat} {g : Nat → Nat → Bool} (h : TabAt W B g) : TabAt W.drew B g := h
theorem TabAt.congr {W : World} {B : Nat} {g g' : Nat → Nat → Bool} (h : TabAt W B g) (e : ∀ a b, a < 24 → b < 24 → g a b = g' a b) : TabAt W B g' := by
  obtain ⟨cur, hb, hc⟩ := h
  exact ⟨cur, hb, fun a b ha hb' => by rw [← e a b ha hb']; exact hc a b ha hb'⟩
theorem tab_next {l : List (Int × Int)} {k : Nat} {p q : Nat} (hk : k < l.length) (hx : l[k]?.getD (0, 0) = ((p : Int), (q : Int))) (a b : Nat) :
    (if a = p ∧ b = q then true else decide (((a : Int), (b : Int)) ∈ l.take k)) = decide (((a : Int), (b : Int)) ∈ l.take (k + 1)) := by
  rw [List.getElem?_eq_getElem hk] at hx
  have hx' : l[k] = ((p : Int), (q : Int)) := hx
  rw [List.take_add_one, List.getElem?_eq_getElem hk, hx']
  by_cases h : a = p ∧ b = q
  · rw [if_pos h, h.1, h.2]; simp
  · rw [if_neg h]
    have : ¬ ((a : Int), (b : Int)) = ((p : Int), (q : Int)) := fun e => h (by injection e with e1 e2; omega)
    simp [this]

theorem case3 : ∀ sm ta tb : Bool, sm = (ta != tb) → (sm = false → ta = false) → (sm = false ∧ ta = false ∧ tb = false) ∨ (sm = true ∧ ta = true ∧ tb = false) ∨ (sm = true ∧ ta = false ∧ tb = true) := by
  intro sm ta tb
  cases sm <;> cases ta <;> cases tb <;> simp
theorem lexOrd17 : Region.lexB .any (opsOf Try.f8 17) = true := by kernel_rfl
theorem lexOrd32 : Region.lexB .any (opsOf Try.f8 32) = true := by kernel_rfl
theorem lexOrd18 : Region.lexB .any (opsOf Try.f8 18) = true := by kernel_rfl

set_option maxRecDepth 100000 in
set_option maxHeartbeats 4000000 in
theorem evOrder_walk (x : Ex) (hok : ExOk x) (Ae Af Ao : Option Addr) (ce cf co : Nat) (w : World) (he : Evs w Ae x.evs) (hf : Ints w Af x.src) (ho : Q.Rows w Ao x.order) (hcap : CapsOk w Ao x.order.length) :
    Calls Try.prog 8 #[.agg #[.slice Ae x.evs.length ce, .slice Af x.src.length cf, .slice Ao x.order.length co]] w fun r w' => r = .returned (.bool true) ∧ Below w.heap.size w w' := by
  have hx0 := he.1
  go_enter Try.func8, Try.ntmps8
  go_upto_region 1 with (fail)
  obtain ⟨W0, s0, hW0, hbx, hsz, b0, b1, b2⟩ := box3 w 26 (.slice Ae x.evs.length ce) (.slice Af x.src.length cf) (.slice Ao x.order.length co)
  rw [hW0]
  clear hW0
  have he0 := he.below hbx
  have hf1 := hf.below hbx
  have ho1 := ho.below hbx
  have hcp1 : CapsOk W0 Ao x.order.length := hcap.fut ho ⟨W0, hbx⟩
  have hend : ∀ s : Fut W0, Below w.heap.size w s.val := fun s => hbx.trans (s.below.mono (Nat.le_of_lt hsz))
  have HEND := Lib.hid hend
  have HWX := Lib.hid (fun s : Fut W0 => wide_any x Ae Af Ao ce cf co s.val (he0.fut s) (hf1.fut s) (ho1.fut s))
  have HCK := Lib.hid (fun s : Fut W0 => check_any x hok Ae Af Ao ce cf co s.val (he0.fut s) (hf1.fut s) (ho1.fut s))
  have HCO := Lib.hid (fun s : Fut W0 => co_any x hok Ae Af Ao ce cf co s.val (he0.fut s) (hf1.fut s) (ho1.fut s) (hcp1.fut ho1 s))
  have HFR := Lib.hid (fun s : Fut W0 => fr_any x hok Ae Af Ao ce cf co s.val (he0.fut s) (hf1.fut s) (ho1.fut s) (hcp1.fut ho1 s))
  have HRF := Lib.hid (fun s : Fut W0 => rf_any x hok Ae Af Ao ce cf co s.val (he0.fut s) (hf1.fut s) (ho1.fut s))
  clear he hf ho hcap hend hf1 ho1 hcp1
  have d0 := b0 s0
  have d1 := b1 s0
  have d2 := b2 s0
  go_wp2_with fail
  refine (HWX.out s0).mono ?_
  rintro e w1 ⟨b, rfl, _, hb1⟩
  obtain ⟨s1, rfl⟩ : ∃ s1 : Fut W0, w1 = s1.val := ⟨⟨w1, s0.below.trans (hb1.mono s0.below.size)⟩, rfl⟩
  clear hb1 d0 d1 d2
  have d0 := b0 s1
  have d1 := b1 s1
  have d2 := b2 s1
  cases b
  case true =>
    go_wp2_with (go_at_call 10; refine (known_any _).mono ?_; rintro e w' ⟨rfl, hb⟩)
    go_ret
    exact ⟨rfl, (HEND.out s1).trans (hb.mono (HEND.out s1).size)⟩
  by_cases h24 : 24 < x.evs.length
  · have q : decide ((24 : Int) < (x.evs.length : Int)) = true := decide_eq_true (by omega)
    go_wp2_with (go_at_call 10; refine (known_any _).mono ?_; rintro e w' ⟨rfl, hb⟩)
    go_ret
    exact ⟨rfl, (HEND.out s1).trans (hb.mono (HEND.out s1).size)⟩
  have q24 : decide ((24 : Int) < (x.evs.length : Int)) = false := decide_eq_false (by omega)
  go_wp2_with fail
  refine (HCK.out s1).mono ?_
  rintro e w1 ⟨rfl, hb1⟩
  obtain ⟨s2, rfl⟩ : ∃ s2 : Fut W0, w1 = s2.val := ⟨⟨w1, s1.below.trans (hb1.mono s1.below.size)⟩, rfl⟩
  clear hb1 d0 d1 d2
  by_cases hv : checkV x = 0
  case neg =>
    have q0 : (checkV x == 0) = false := beq_eq_false_iff_ne.2 hv
    have q1 : (checkV x != 0) = true := by rw [bne, q0]; rfl
    go_wp2_with (go_at_call 10; refine (known_any _).mono ?_; rintro e w' ⟨rfl, hb⟩)
    go_ret
    exact ⟨rfl, (HEND.out s2).trans (hb.mono (HEND.out s2).size)⟩
  have q0 : (checkV x == 0) = true := beq_iff_eq.2 hv
  have q1 : (checkV x != 0) = false := by rw [bne, q0]; rfl
  have HV := Lib.hid hv
  clear hv
  have d0 := b0 s2
  have d1 := b1 s2
  have d2 := b2 s2
  go_upto_region 4 with (go_at_call 23; refine (HCO.out s2).mono ?_; rintro e w1 ⟨A1, c1, rfl, hp1, hb1⟩)
  obtain ⟨s3, rfl⟩ : ∃ s3 : Fut W0, w1 = s3.val := ⟨⟨w1, s2.below.trans (hb1.mono s2.below.size)⟩, rfl⟩
  clear hb1 d0 d1 d2
  go_upto_region 5 with (fail)
  have hT0 := TabAt.zero s3.val
  have hA0 : Below s3.val.heap.size s3.val (s3.val.alloc (.cells Try.zeroCells48 48)) := (Below.refl _ _).alloc (Nat.le_refl _) _
  generalize hB : s3.val.heap.size = B at hT0 hA0 ⊢
  have HB := Lib.hid hB
  clear hB
  have hcl := coV_len x
  have HPL := Lib.hid (coV_places (x := x))
  go_wp2
  go_loopw [5] (fun i wr => ∃ k : Nat, k ≤ (coV x).length ∧ i = .int .i64 k ∧ Below B s3.val wr ∧ TabAt wr B (fun a b => decide (((a : Int), (b : Int)) ∈ (coV x).take k))) (fun i _ => (coV x).length - (intOf i).toNat)
  case atStart => exact ⟨0, Nat.zero_le _, rfl, hA0, hT0.congr (fun a b _ _ => by simp)⟩
  case round =>
    obtain ⟨k, hk, rfl, hBw, hT⟩ := hrel
    by_cases hkl : k < (coV x).length
    · obtain ⟨b, off, rfl, hcs⟩ := hp1.2 (by omega)
      obtain ⟨hc0, hc1⟩ := hcs k hkl
      obtain ⟨p, hp⟩ : ∃ p, (coV x)[k]?.getD (0, 0) = p := ⟨_, rfl⟩
      have hpm : p ∈ coV x := by rw [List.getElem?_eq_getElem hkl] at hp; rw [← (show (coV x)[k] = p from hp)]; exact List.getElem_mem hkl
      rw [hp] at hc0 hc1
      obtain ⟨x0, x1⟩ := p
      dsimp only at hc0 hc1
      have hpp : (0 ≤ x0 ∧ x0 < 24) ∧ 0 ≤ x1 ∧ x1 < 24 := by
        rw [co_yes HV.out] at hpm
        have := coL_places HV.out _ (mem_sortP.1 hpm)
        dsimp only at this
        omega
      obtain ⟨m0, rfl⟩ := Int.eq_ofNat_of_zero_le hpp.1.1
      obtain ⟨m1, rfl⟩ := Int.eq_ofNat_of_zero_le hpp.2.1
      have g0 : m0 < 24 := by omega
      have g1 : m1 < 24 := by omega
      have z1 : decide ((m0 : Int) < 0) = false := decide_eq_false (by omega)
      have z2 : decide ((m0 : Int) ≥ 24) = false := decide_eq_false (by omega)
      have z3 : decide ((24 : Int) ≤ (m0 : Int)) = false := decide_eq_false (by omega)
      have z4 : decide ((m1 : Int) < 0) = false := decide_eq_false (by omega)
      have z5 : decide ((m1 : Int) ≥ 24) = false := decide_eq_false (by omega)
      have z6 : decide ((24 : Int) ≤ (m1 : Int)) = false := decide_eq_false (by omega)
      have hset := Lib.hid (hT.set g0 g1)
      have hcell := hT.cell g0 g1
      have hfr := hT.frozen (m0 * 24 + m1)
      have HX := Lib.hid hp
      have i0 : (0 : Int) ≤ (m0 : Int) := by omega
      have i1 : (m0 : Int) < 24 := by omega
      have i2 : (0 : Int) ≤ (m1 : Int) := by omega
      have i3 : (m1 : Int) < 24 := by omega
      have hBw2 : Below s3.val.heap.size s3.val wr := by rw [HB.out]; exact hBw
      have hBs := hBw.setCell (p := ⟨B, m0 * 24 + m1, none⟩) (Nat.le_refl _) (.bool true)
      have hBs2 : Below s3.val.heap.size s3.val (wr.setCell ⟨B, m0 * 24 + m1, none⟩ (.bool true)) := by rw [HB.out]; exact hBs
      have k0 : (wr.setCell ⟨B, m0 * 24 + m1, none⟩ (.bool true)).drew.cell? ⟨b, off + k * 2, none⟩ = some (.int .i64 m0) := (⟨_, hBs2⟩ : Fut s3.val).cell hc0
      have k1 : (wr.setCell ⟨B, m0 * 24 + m1, none⟩ (.bool true)).drew.cell? ⟨b, off + k * 2 + 1, none⟩ = some (.int .i64 m1) := (⟨_, hBs2⟩ : Fut s3.val).cell hc1
      have l0 : wr.cell? ⟨b, off + k * 2, none⟩ = some (.int .i64 m0) := (⟨wr, hBw2⟩ : Fut s3.val).cell hc0
      have l1 : wr.cell? ⟨b, off + k * 2 + 1, none⟩ = some (.int .i64 m1) := (⟨wr, hBw2⟩ : Fut s3.val).cell hc1
      have HBS := Lib.hid hBs
      clear hcs hp hpm hpp hT hc0 hc1 hBs hBw2 hBs2
      go_upto_region 10 with (fail)
      go_region_held3 (fun w' => w'.cell? ⟨b, off + k * 2, none⟩ = some (.int .i64 m0) ∧ w'.cell? ⟨b, off + k * 2 + 1, none⟩ = some (.int .i64 m1))
        (first | go_keep | (exact ⟨k0, k1⟩))
        (first | (fail))
      go_wp2
      go_roundw
      case rel => exact ⟨k + 1, by omega, by go_num, HBS.out.drew, (hset.out.drew).congr (fun a b _ _ => tab_next hkl HX.out a b)⟩
      case measure => simp [intOf]; omega
    · obtain rfl : k = (coV x).length := by omega
      have hT5 := hT.congr (g' := fun a b => decide (((a : Int), (b : Int)) ∈ coV x)) (fun a b _ _ => by rw [List.take_length])
      have hB0 : Below W0.heap.size W0 wr := s3.below.trans ((show Below s3.val.heap.size s3.val wr from by rw [HB.out]; exact hBw).mono s3.below.size)
      have hpr5 : Prs wr A1 (coV x) := hp1.below (show Below s3.val.heap.size s3.val wr from by rw [HB.out]; exact hBw)
      have he5 : Evs wr Ae x.evs := he0.fut ⟨wr, hB0⟩
      have e0 : ∀ t : Fut wr, t.val.cell? ⟨w.heap.size, 0, none⟩ = some (.slice Ae x.evs.length ce) := fun t => b0 ⟨t.val, hB0.trans (t.below.mono hB0.size)⟩
      have e1 : ∀ t : Fut wr, t.val.cell? ⟨w.heap.size, 1, none⟩ = some (.slice Af x.src.length cf) := fun t => b1 ⟨t.val, hB0.trans (t.below.mono hB0.size)⟩
      have e2 : ∀ t : Fut wr, t.val.cell? ⟨w.heap.size, 2, none⟩ = some (.slice Ao x.order.length co) := fun t => b2 ⟨t.val, hB0.trans (t.below.mono hB0.size)⟩
      have htab : ∀ a b : Nat, a < 24 → b < 24 → ∀ t : Fut wr, t.val.cell? ⟨B, a * 24 + b, none⟩ = some (.bool (decide (((a : Int), (b : Int)) ∈ coV x))) := fun a b ha hb t => t.cell (hT5.cell ha hb)
      have HTAB := Lib.hid htab
      have HB0 := Lib.hid hB0
      have hn24 : x.evs.length ≤ 24 := by omega
      clear htab hB0 hT hT5 hT0 hA0 hBw b0 b1 b2 hp1
      generalize wr = W5 at *
      obtain ⟨s5, hs5⟩ : ∃ s5 : Fut W5, W5 = s5.val := ⟨⟨W5, Below.refl _ _⟩, rfl⟩
      have u0 : W5.cell? ⟨w.heap.size, 0, none⟩ = some (.slice Ae x.evs.length ce) := e0 ⟨W5, Below.refl _ _⟩
      go_upto_region 12 with (fail)
      clear u0
      go_loopw [6] (fun i wr => ∃ a : Nat, a ≤ x.evs.length ∧ i = .int .i64 a ∧ ∃ s : Fut W5, wr = s.val) (fun i _ => x.evs.length - (intOf i).toNat)
      case atStart => exact ⟨0, Nat.zero_le _, rfl, s5, rfl⟩
      case round =>
        obtain ⟨a, ha, rfl, s, rfl⟩ := hrel
        have u0 := e0 s
        by_cases hal : a < x.evs.length
        case neg =>
          obtain rfl : a = x.evs.length := by omega
          have v0 := e0 s
          have v1 := e1 s
          have v2 := e2 s
          have HFR2 := Lib.hid (fun (W' : World) (h : Below W5.heap.size W5 W') => HFR.out ⟨W', HB0.out.trans (h.mono HB0.out.size)⟩)
          have HRF2 := Lib.hid (fun (W' : World) (h : Below W5.heap.size W5 W') => HRF.out ⟨W', HB0.out.trans (h.mono HB0.out.size)⟩)
          have hbb : Below W5.heap.size W5 s.val.drew := s.below.drew
          clear u0
          go_upto_region 25 with (fail)
          go_cut [10, 11] (fun v10 v11 wx => ∃ (A2 : Option Addr) (c2 : Nat) (A3 : Option Addr) (c3 : Nat), v10 = .slice A2 (frV x).length c2 ∧ v11 = .slice A3 (rfV x).length c3 ∧ Prs wx A2 (frV x) ∧ Prs wx A3 (rfV x) ∧ Below W5.heap.size W5 wx)
          case first =>
            go_region_held3 (fun w' => w'.cell? ⟨w.heap.size, 0, none⟩ = some (.slice Ae x.evs.length ce) ∧ w'.cell? ⟨w.heap.size, 1, none⟩ = some (.slice Af x.src.length cf) ∧ w'.cell? ⟨w.heap.size, 2, none⟩ = some (.slice Ao x.order.length co) ∧ Below W5.heap.size W5 w')
              (first | (exact ⟨e0 ⟨_, hbb⟩, e1 ⟨_, hbb⟩, e2 ⟨_, hbb⟩, hbb⟩) | go_keep)
              (first
                | (have hH := (‹_ ∧ _ ∧ _ ∧ Below W5.heap.size W5 _›).2.2.2; go_at_call 24; refine (HFR2.out _ hH).mono ?_; rintro e w2 ⟨A2, c2, rfl, hp2, hb2⟩; have hbb := hH.trans (hb2.mono hH.size))
                | (have hH := (‹_ ∧ _ ∧ _ ∧ Below W5.heap.size W5 _›).2.2.2; go_at_call 25; refine (HRF2.out _ hH).mono ?_; rintro e w3 ⟨A3, c3, rfl, hp3, hb3⟩; have hbb := hH.trans (hb3.mono hH.size)))
            all_goals
              go_wp2_with fail
              go_meet
              first
                | exact ⟨A2, c2, A3, c3, rfl, rfl, hp2.below hb3, hp3, hbb⟩
                | exact ⟨A2, c2, A3, c3, rfl, rfl, hp2, hp3.below hb2, hbb⟩
          case rest =>
            obtain ⟨A2, c2, A3, c3, rfl, rfl, hp2, hp3, hbw⟩ := hcut
            have hfl := hp2.1
            have hrl := hp3.1
            have HP2 := Lib.hid hp2
            have HP3 := Lib.hid hp3
            have HW := Lib.hid hbw
            clear hp2 hp3 hbw hbb v0 v1 v2
            go_wp2
            go_loopw [12] (fun i wr => ∃ k : Nat, k ≤ (frV x).length ∧ i = .int .i64 k ∧ ∃ s : Fut wc, wr = s.val) (fun i _ => (frV x).length - (intOf i).toNat)
            case atStart => exact ⟨0, Nat.zero_le _, rfl, ⟨wc, Below.refl _ _⟩, rfl⟩
            case round =>
              obtain ⟨k, hk, rfl, s1, rfl⟩ := hrel
              by_cases hkl : k < (frV x).length
              case neg =>
                go_wp2_with (go_at_call 10; refine (known_any _).mono ?_; rintro e w' ⟨rfl, hb⟩)
                go_ret
                have hB : Below w.heap.size w s1.val := by
                  have h1 := HEND.out ⟨W5, HB0.out⟩
                  exact (h1.trans (HW.out.mono h1.size)).trans (s1.below.mono (Nat.le_trans h1.size HW.out.size))
                exact ⟨rfl, hB.trans (hb.mono hB.size)⟩
              go_wp2
              go_loopw [13] (fun i wr => ∃ q : Nat, q ≤ (rfV x).length ∧ i = .int .i64 q ∧ ∃ s : Fut wc, wr = s.val) (fun i _ => (rfV x).length - (intOf i).toNat)
              case atStart => exact ⟨0, Nat.zero_le _, rfl, s1, rfl⟩
              case round =>
                obtain ⟨q, hq, rfl, s2, rfl⟩ := hrel
                by_cases hql : q < (rfV x).length
                case neg =>
                  obtain rfl : q = (rfV x).length := by omega
                  go_wp2
                  go_roundw
                  case rel => exact ⟨k + 1, by omega, by go_num, s2, rfl⟩
                  case measure => simp [intOf]; omega
                obtain ⟨bf, of, rfl, hcf⟩ := HP2.out.2 (by omega)
                obtain ⟨br, or, rfl, hcr⟩ := HP3.out.2 (by omega)
                obtain ⟨hf0, hf1⟩ := hcf k hkl
                obtain ⟨hr0, hr1⟩ := hcr q hql
                obtain ⟨F, hF⟩ : ∃ F, (frV x)[k]?.getD (0, 0) = F := ⟨_, rfl⟩
                obtain ⟨R, hR⟩ : ∃ R, (rfV x)[q]?.getD (0, 0) = R := ⟨_, rfl⟩
                have hno := fr_rf HV.out (p := F) (q := R) (by rw [List.getElem?_eq_getElem hkl] at hF; rw [← (show (frV x)[k] = F from hF)]; exact List.getElem_mem hkl) (by rw [List.getElem?_eq_getElem hql] at hR; rw [← (show (rfV x)[q] = R from hR)]; exact List.getElem_mem hql)
                rw [hF] at hf0 hf1
                rw [hR] at hr0 hr1
                clear hF hR hcf hcr
                obtain ⟨F0, F1⟩ := F
                obtain ⟨R0, R1⟩ := R
                dsimp only at hf0 hf1 hr0 hr1 hno
                have l0 : ∀ s : Fut wc, s.val.cell? ⟨bf, of + k * 2, none⟩ = some (.int .i64 F0) := fun s => s.cell hf0
                have l1 : ∀ s : Fut wc, s.val.cell? ⟨bf, of + k * 2 + 1, none⟩ = some (.int .i64 F1) := fun s => s.cell hf1
                have l2 : ∀ s : Fut wc, s.val.cell? ⟨br, or + q * 2, none⟩ = some (.int .i64 R0) := fun s => s.cell hr0
                have l3 : ∀ s : Fut wc, s.val.cell? ⟨br, or + q * 2 + 1, none⟩ = some (.int .i64 R1) := fun s => s.cell hr1
                have HNO := Lib.hid hno
                clear hno hf0 hf1 hr0 hr1
                go_upto_region 32 with (fail)
                refine wp_region_futs s2 (by kernel_rfl) (lexOf lexOrd32 (by kernel_rfl)) ?_
                repeat (first
                  | (refine wpQuiet_or rfl rfl rfl rfl ?_; simp only [Act.put, List.setIfInBounds_toArray, List.set_cons_succ, List.set_cons_zero])
                  | (refine wpQuiet_and rfl rfl rfl rfl ?_; simp only [Act.put, List.setIfInBounds_toArray, List.set_cons_succ, List.set_cons_zero])
                  | go_big_quiet_skip
                  | (go_big_quiet_want; go_big_quiet_op; first | go_big_quiet_on | go_big_quiet_call ((fail)))
                  | (refine wpQuiet_dead (by first | exact wanted_t rfl rfl rfl | exact wanted_f rfl rfl rfl | exact wanted_ts rfl rfl rfl | exact wanted_fs rfl rfl rfl) rfl (of_decide_eq_true rfl) (by simp only [Bool.not_true, Bool.and_false, Bool.false_and, Bool.or_true, Bool.true_or]) ?_; simp only [Act.put, List.setIfInBounds_toArray, List.set_cons_succ, List.set_cons_zero])
                  | (refine wpQuiet_or_und rfl (by first | exact wanted_t rfl rfl rfl | exact wanted_f rfl rfl rfl | exact wanted_ts rfl rfl rfl | exact wanted_fs rfl rfl rfl) rfl (of_decide_eq_true rfl) rfl rfl ?_; simp only [Act.put, List.setIfInBounds_toArray, List.set_cons_succ, List.set_cons_zero])
                  | (refine wpQuiet_and_und rfl (by first | exact wanted_t rfl rfl rfl | exact wanted_f rfl rfl rfl | exact wanted_ts rfl rfl rfl | exact wanted_fs rfl rfl rfl) rfl (of_decide_eq_true rfl) rfl rfl ?_; simp only [Act.put, List.setIfInBounds_toArray, List.set_cons_succ, List.set_cons_zero])
                  | (refine wpQuiet_und (by first | exact wanted_t rfl rfl rfl | exact wanted_f rfl rfl rfl | exact wanted_ts rfl rfl rfl | exact wanted_fs rfl rfl rfl) rfl (of_decide_eq_true rfl) ?_
                     apply Exists.intro
                     refine ⟨fun hb => ?_, ?_⟩
                     · (skip)
                       (try simp only [sel_of hb])
                       (try (have hb1 := and_l hb; (try simp only [sel_of hb1]); (try (have hb2 := and_l hb1; (try simp only [sel_of hb2]); (try (have hb3 := and_l hb2; (try simp only [sel_of hb3])))))))
                       go_big_quiet_op
                       first | ((show Act.eval _ (Operand.tmp _) = _); conv => (lhs; whnf)) | (apply Exists.intro; refine ⟨fun _ => ?_, ?_⟩; (focus (fail)); ((show Act.eval _ (Operand.tmp _) = _); conv => (lhs; whnf)))
                     simp only [Act.put, List.setIfInBounds_toArray, List.set_cons_succ, List.set_cons_zero]))
                refine wpQuiet_nil ?_
                intro s3
                generalize hb : (F0 == R1 && F1 == R0) = bb
                have hbb : bb = false := by
                  rw [← hb]
                  cases h : (F0 == R1 && F1 == R0) with
                  | false => rfl
                  | true => simp only [Bool.and_eq_true, beq_iff_eq] at h; exact absurd h HNO.out
                subst hbb
                clear hb
                go_wp2
                go_roundw
                case rel => exact ⟨q + 1, by omega, by go_num, s3, rfl⟩
                case measure => simp [intOf]; omega
        go_upto_region 15 with (fail)
        clear u0
        go_loopw [7] (fun i wr => ∃ b : Nat, b ≤ x.evs.length ∧ i = .int .i64 b ∧ ∃ s : Fut W5, wr = s.val) (fun i _ => x.evs.length - (intOf i).toNat)
        case atStart => exact ⟨0, Nat.zero_le _, rfl, s, rfl⟩
        case round =>
          obtain ⟨b, hb, rfl, s6, rfl⟩ := hrel
          have u0 := e0 s6
          by_cases hbl : b < x.evs.length
          case neg =>
            obtain rfl : b = x.evs.length := by omega
            go_wp2
            go_roundw
            case rel => exact ⟨a + 1, by omega, by go_num, s6, rfl⟩
            case measure => simp [intOf]; omega
          obtain ⟨be, oe, rfl, _⟩ := he5.2 (by omega)
          obtain ⟨e, hen⟩ : ∃ e, e = x.evs[a]?.getD zev := ⟨_, rfl⟩
          obtain ⟨g, hgn⟩ : ∃ g, g = x.evs[b]?.getD zev := ⟨_, rfl⟩
          have hE := he5.at a hal
          have hG := he5.at b hbl
          rw [← hen] at hE
          rw [← hgn] at hG
          obtain ⟨P1, n1, D1, d1, C1, p1, f0, f1, f2, f3, f4, f5, f6, f7, f8, f9, f10, f11, f12, _, _, _⟩ := hE.facts
          obtain ⟨P2, n2, D2, d2, C2, p2, g0, g1, g2, g3, g4, g5, g6, g7, g8, g9, g10, g11, g12, _, _, _⟩ := hG.facts
          have hsame := Lib.hid (show sameB x a b = (a != b && ((e.kind == 2 || e.kind == 3 || e.kind == 5) && ((g.kind == 2 || g.kind == 3 || g.kind == 5) && e.addr == g.addr))) from by rw [hen, hgn]; rfl)
          clear hE hG hen hgn u0
          go_upto_region 17 with (fail)
          refine wp_region_futs s6 (by kernel_rfl) (lexOf lexOrd17 (by kernel_rfl)) ?_
          repeat (first
            | (refine wpQuiet_or rfl rfl rfl rfl ?_; simp only [Act.put, List.setIfInBounds_toArray, List.set_cons_succ, List.set_cons_zero])
            | (refine wpQuiet_and rfl rfl rfl rfl ?_; simp only [Act.put, List.setIfInBounds_toArray, List.set_cons_succ, List.set_cons_zero])
            | go_big_quiet_skip
            | (go_big_quiet_want; go_big_quiet_op; first | go_big_quiet_on | go_big_quiet_call (((go_at_call 17; exact fut_callS _ (stores_any _ _ _ _ _ _ _ _ _ _ _ _ _ _)))))
            | (refine wpQuiet_dead (by first | exact wanted_t rfl rfl rfl | exact wanted_f rfl rfl rfl | exact wanted_ts rfl rfl rfl | exact wanted_fs rfl rfl rfl) rfl (of_decide_eq_true rfl) (by simp only [Bool.not_true, Bool.and_false, Bool.false_and, Bool.or_true, Bool.true_or]) ?_; simp only [Act.put, List.setIfInBounds_toArray, List.set_cons_succ, List.set_cons_zero])
            | (refine wpQuiet_or_und rfl (by first | exact wanted_t rfl rfl rfl | exact wanted_f rfl rfl rfl | exact wanted_ts rfl rfl rfl | exact wanted_fs rfl rfl rfl) rfl (of_decide_eq_true rfl) rfl rfl ?_; simp only [Act.put, List.setIfInBounds_toArray, List.set_cons_succ, List.set_cons_zero])
            | (refine wpQuiet_and_und rfl (by first | exact wanted_t rfl rfl rfl | exact wanted_f rfl rfl rfl | exact wanted_ts rfl rfl rfl | exact wanted_fs rfl rfl rfl) rfl (of_decide_eq_true rfl) rfl rfl ?_; simp only [Act.put, List.setIfInBounds_toArray, List.set_cons_succ, List.set_cons_zero])
            | (refine wpQuiet_und (by first | exact wanted_t rfl rfl rfl | exact wanted_f rfl rfl rfl | exact wanted_ts rfl rfl rfl | exact wanted_fs rfl rfl rfl) rfl (of_decide_eq_true rfl) ?_
               apply Exists.intro
               refine ⟨fun hb => ?_, ?_⟩
               · (skip)
                 (try simp only [sel_of hb])
                 (try (have hb1 := and_l hb; (try simp only [sel_of hb1]); (try (have hb2 := and_l hb1; (try simp only [sel_of hb2]); (try (have hb3 := and_l hb2; (try simp only [sel_of hb3])))))))
                 go_big_quiet_op
                 first | ((show Act.eval _ (Operand.tmp _) = _); conv => (lhs; whnf)) | (apply Exists.intro; refine ⟨fun _ => ?_, ?_⟩; (focus ((go_at_call 17; exact fut_callS _ (stores_any _ _ _ _ _ _ _ _ _ _ _ _ _ _)))); ((show Act.eval _ (Operand.tmp _) = _); conv => (lhs; whnf)))
               simp only [Act.put, List.setIfInBounds_toArray, List.set_cons_succ, List.set_cons_zero]))
          refine wpQuiet_nil ?_
          intro s7
          generalize hsm : ((a : Int) != (b : Int) && (e.kind == 2 || e.kind == 3 || e.kind == 5) && (g.kind == 2 || g.kind == 3 || g.kind == 5) && e.addr == g.addr) = sm
          have hs2 : sm = sameB x a b := by
            rw [← hsm, hsame.out, Bool.and_assoc, Bool.and_assoc]
            congr 1
            rw [Bool.eq_iff_iff]; simp; omega
          obtain ⟨t1, t2⟩ := co_table HV.out hal hbl
          rw [← hs2] at t1 t2
          have c1 := HTAB.out a b (by omega) (by omega)
          have c2 := HTAB.out b a (by omega) (by omega)
          have htr : ∀ c : Nat, decide (((a : Int), (b : Int)) ∈ coV x) = true → decide (((b : Int), (c : Int)) ∈ coV x) = true → decide (((a : Int), (c : Int)) ∈ coV x) = true := fun c h1 h2 => decide_eq_true (co_trans HV.out (of_decide_eq_true h1) (of_decide_eq_true h2))
          generalize decide (((a : Int), (b : Int)) ∈ coV x) = ta at c1 t1 t2 htr
          generalize decide (((b : Int), (a : Int)) ∈ coV x) = tb at c2 t1
          have hcase : (sm = false ∧ ta = false ∧ tb = false) ∨ (sm = true ∧ ta = true ∧ tb = false) ∨ (sm = true ∧ ta = false ∧ tb = true) := case3 sm ta tb t1 t2
          have i0 : (0 : Int) ≤ (a : Int) := by omega
          have i1 : (a : Int) < 24 := by omega
          have i2 : (0 : Int) ≤ (b : Int) := by omega
          have i3 : (b : Int) < 24 := by omega
          have HTR := Lib.hid htr
          clear hsm hs2 t1 t2 hsame htr f0 f1 f2 f3 f4 f5 f6 f7 f8 f9 f10 f11 f12 g0 g1 g2 g3 g4 g5 g6 g7 g8 g9 g10 g11 g12
          rcases hcase with ⟨rfl, rfl, rfl⟩ | ⟨rfl, rfl, rfl⟩ | ⟨rfl, rfl, rfl⟩
          all_goals
            go_upto_region 18 with (fail)
            refine wp_region_futs s7 (by kernel_rfl) (lexOf lexOrd18 (by kernel_rfl)) ?_
            repeat (go_big_quiet_step (fail))
            refine wpQuiet_nil ?_
            intro s8
            go_upto_region 21 with (fail)
            go_loopw [9] (fun i wr => ∃ c : Nat, c ≤ x.evs.length ∧ i = .int .i64 c ∧ ∃ s : Fut W5, wr = s.val) (fun i _ => x.evs.length - (intOf i).toNat)
            case atStart => exact ⟨0, Nat.zero_le _, rfl, s8, rfl⟩
            case round =>
              obtain ⟨c, hc, rfl, s9, rfl⟩ := hrel
              have u0 := e0 s9
              by_cases hcl' : c < x.evs.length
              case neg =>
                obtain rfl : c = x.evs.length := by omega
                go_wp2
                go_roundw
                case rel => exact ⟨b + 1, by omega, by go_num, s9, rfl⟩
                case measure => simp [intOf]; omega
              have v1 := c1 s9
              have v2 := HTAB.out b c (by omega) (by omega) s9
              have v3 := HTAB.out a c (by omega) (by omega) s9
              have himp := HTR.out c
              generalize decide (((b : Int), (c : Int)) ∈ coV x) = tbc at v2 himp
              generalize decide (((a : Int), (c : Int)) ∈ coV x) = tac at v3 himp
              have i4 : (0 : Int) ≤ (c : Int) := by omega
              have i5 : (c : Int) < 24 := by omega
              cases tac <;> cases tbc <;> first
                | (have h := himp trivial rfl; cases h; done)
                | (have h := himp rfl rfl; cases h; done)
                | (clear himp
                   go_wp2
                   go_roundw
                   case rel => exact ⟨c + 1, by omega, by go_num, s9, rfl⟩
                   case measure => simp [intOf]; omega)
end Go.Proofs.Ytacnbdnmkmpldaa
