/- EventsCircles: the law's walk. -/
import Derived.Test.YtacnbdnmkmpldaaCir
import Derived.Test.YtacnbdnmkmpldaaKn
namespace Go.Proofs.Ytacnbdnmkmpldaa
open Go Go.Proofs Go.RowKit Q
set_option linter.unusedSimpArgs false
set_option linter.unusedVariables false

/-- Is every place there? -/
def okV (n : Int) (l : List (Int × Int)) : Bool := (decide (0 ≤ n) && decide (n ≤ 64)) && l.all fun q => !outP n q
theorem circles_law (n : Int) (l : List (Int × Int)) : acyclicV n l = (okV n l && !circleV n.toNat l) := by
  rw [Bool.eq_iff_iff, acyclicV_iff]
  simp only [okV, Bool.and_eq_true, decide_eq_true_eq, List.all_eq_true, Bool.not_eq_true', outP, Bool.or_eq_false_iff, decide_eq_false_iff_not]
  constructor
  · rintro ⟨⟨h0, h1, h2⟩, hA⟩
    refine ⟨⟨⟨h0, h1⟩, fun q hq => by have := h2 q hq; omega⟩, ?_⟩
    exact (circleV_iff (fun p hp => by have := h2 p hp; omega)).2 hA
  · rintro ⟨⟨⟨h0, h1⟩, h2⟩, hc⟩
    have h3 : ∀ p ∈ l, (0 ≤ p.1 ∧ p.1 < n) ∧ 0 ≤ p.2 ∧ p.2 < n := fun p hp => by have := h2 p hp; omega
    exact ⟨⟨h0, h1, h3⟩, (circleV_iff (fun p hp => by have := h3 p hp; omega)).1 hc⟩
theorem all_take_succ (p : Int × Int → Bool) (l : List (Int × Int)) {k : Nat} {x : Int × Int} (hk : k < l.length) (hx : l[k]?.getD (0, 0) = x) : (l.take (k + 1)).all p = ((l.take k).all p && p x) := by
  rw [List.getElem?_eq_getElem hk] at hx
  rw [List.take_add_one, List.getElem?_eq_getElem hk, List.all_append]
  simp only [Option.toList_some, List.all_cons, List.all_nil, Bool.and_true]
  rw [← hx]; rfl

set_option maxHeartbeats 1000000 in
theorem keep_yes (A : Option Addr) (n c : Nat) (w : World) : Calls Try.prog 15 #[.slice A n c, .bool true] w fun e w' => e = .returned (.slice A n c) ∧ w = w' := by
  go_enter Try.func15, Try.ntmps15
  go_wp2
  go_ret
  exact ⟨rfl, rfl⟩

set_option maxRecDepth 100000 in
set_option maxHeartbeats 4000000 in
theorem evCircles_walk (n : Int) (l : List (Int × Int)) (A : Option Addr) (c : Nat) (w : World) (hl : Prs w A l) :
    Calls Try.prog 4 #[.int .i64 n, .slice A l.length c] w fun r w' => r = .returned (.bool true) ∧ Below w.heap.size w w' := by
  have hl0 := hl.1
  go_enter Try.func4, Try.ntmps4
  by_cases hlong : 120 < l.length
  · have q : decide ((120 : Int) < (l.length : Int)) = true := decide_eq_true (by omega)
    go_wp2_with (go_at_call 10; refine (known_any _).mono ?_; rintro e w' ⟨rfl, hb⟩)
    go_ret
    exact ⟨rfl, hb⟩
  have q : decide ((120 : Int) < (l.length : Int)) = false := decide_eq_false (by omega)
  by_cases hn0 : 0 ≤ n
  case neg =>
    have qn : decide (n ≥ 0) = false := decide_eq_false (by omega)
    have qm : decide (0 ≤ n) = false := decide_eq_false (by omega)
    have hV : acyclicV n l = false := by rw [circles_law]; unfold okV; rw [qm]; rfl
    have HV := Lib.hid hV
    clear hV hn0
    go_wp2
    go_loopw [5, 6] (fun d i wx => ∃ k : Nat, k ≤ l.length ∧ i = .int .i64 k ∧ wx = w ∧ d = .bool false) (fun _ i _ => l.length - (intOf i).toNat)
    case atStart => exact ⟨0, Nat.zero_le _, rfl, rfl, rfl⟩
    case round =>
      obtain ⟨k, hk, rfl, rfl, rfl⟩ := hrel
      by_cases hkl : k < l.length
      · go_wp2
        go_roundw
        case rel => exact ⟨k + 1, by omega, by go_num, trivial, rfl⟩
        case measure => simp [intOf]; omega
      · obtain rfl : k = l.length := by omega
        go_wp2_with (first
          | (go_at_call 13; refine (acyclic_any n l A c _ hl (by omega)).mono ?_; rintro e w1 ⟨rfl, hb1⟩; rw [HV.out])
          | (go_at_call 10; refine (known_any _).mono ?_; rintro e w2 ⟨rfl, hb2⟩))
        go_ret
        exact ⟨rfl, hb1.trans (hb2.mono hb1.size)⟩
  have qn0 : decide (n ≥ 0) = true := decide_eq_true (by omega)
  by_cases hn1 : n ≤ 64
  case neg =>
    have qn1 : decide (n ≤ 64) = false := decide_eq_false (by omega)
    have hV : acyclicV n l = false := by rw [circles_law]; unfold okV; rw [qn1, Bool.and_false]; rfl
    have HV := Lib.hid hV
    clear hV
    go_wp2
    go_loopw [5, 6] (fun d i wx => ∃ k : Nat, k ≤ l.length ∧ i = .int .i64 k ∧ wx = w ∧ d = .bool false) (fun _ i _ => l.length - (intOf i).toNat)
    case atStart => exact ⟨0, Nat.zero_le _, rfl, rfl, rfl⟩
    case round =>
      obtain ⟨k, hk, rfl, rfl, rfl⟩ := hrel
      by_cases hkl : k < l.length
      · go_wp2
        go_roundw
        case rel => exact ⟨k + 1, by omega, by go_num, trivial, rfl⟩
        case measure => simp [intOf]; omega
      · obtain rfl : k = l.length := by omega
        go_wp2_with (first
          | (go_at_call 13; refine (acyclic_any n l A c _ hl (by omega)).mono ?_; rintro e w1 ⟨rfl, hb1⟩; rw [HV.out])
          | (go_at_call 10; refine (known_any _).mono ?_; rintro e w2 ⟨rfl, hb2⟩))
        go_ret
        exact ⟨rfl, hb1.trans (hb2.mono hb1.size)⟩
  have qn1 : decide (n ≤ 64) = true := decide_eq_true (by omega)
  obtain ⟨N, rfl⟩ := Int.eq_ofNat_of_zero_le hn0
  have HLAW := Lib.hid (circles_law (N : Int) l)
  go_wp2
  go_loopw [5, 6] (fun d i wx => ∃ k : Nat, k ≤ l.length ∧ i = .int .i64 k ∧ wx = w ∧ d = .bool ((l.take k).all fun q => !outP N q)) (fun _ i _ => l.length - (intOf i).toNat)
  case atStart => exact ⟨0, Nat.zero_le _, rfl, rfl, rfl⟩
  case round =>
    obtain ⟨k, hk, rfl, rfl, hd⟩ := hrel
    generalize hled : ((l.take k).all fun q => !outP N q) = led at hd
    subst hd
    have HLED := Lib.hid hled
    clear hled
    by_cases hkl : k < l.length
    · obtain ⟨b, off, rfl, hcs⟩ := hl.2 (by omega)
      obtain ⟨hc0, hc1⟩ := hcs k hkl
      obtain ⟨x, hx⟩ : ∃ x, l[k]?.getD (0, 0) = x := ⟨_, rfl⟩
      rw [hx] at hc0 hc1
      obtain ⟨x0, x1⟩ := x
      dsimp only at hc0 hc1
      have hnext := Lib.hid (all_take_succ (fun q => !outP N q) l hkl hx)
      have hout := Lib.hid (show outP N (x0, x1) = (decide (x0 < 0) || (decide ((N : Int) ≤ x0) || (decide (x1 < 0) || decide ((N : Int) ≤ x1)))) from rfl)
      clear hcs hx
      cases led
      case false =>
        go_wp2
        go_roundw
        case rel => exact ⟨k + 1, by omega, by go_num, trivial, by rw [hnext.out, HLED.out]; rfl⟩
        case measure => simp [intOf]; omega
      by_cases y1 : 0 ≤ x0
      case neg =>
        have q1 : decide (x0 ≥ 0) = false := decide_eq_false (by omega)
        go_wp2
        go_roundw
        case rel => exact ⟨k + 1, by omega, by go_num, trivial, by rw [hnext.out, HLED.out, hout.out, decide_eq_true (show x0 < 0 by omega)]; rfl⟩
        case measure => simp [intOf]; omega
      have q1 : decide (x0 ≥ 0) = true := decide_eq_true (by omega)
      by_cases y2 : x0 < (N : Int)
      case neg =>
        have q2 : decide (x0 < (N : Int)) = false := decide_eq_false (by omega)
        go_wp2
        go_roundw
        case rel => exact ⟨k + 1, by omega, by go_num, trivial, by rw [hnext.out, HLED.out, hout.out, decide_eq_true (show (N : Int) ≤ x0 by omega)]; simp⟩
        case measure => simp [intOf]; omega
      have q2 : decide (x0 < (N : Int)) = true := decide_eq_true (by omega)
      by_cases y3 : 0 ≤ x1
      case neg =>
        have q3 : decide (x1 ≥ 0) = false := decide_eq_false (by omega)
        go_wp2
        go_roundw
        case rel => exact ⟨k + 1, by omega, by go_num, trivial, by rw [hnext.out, HLED.out, hout.out, decide_eq_true (show x1 < 0 by omega)]; simp⟩
        case measure => simp [intOf]; omega
      have q3 : decide (x1 ≥ 0) = true := decide_eq_true (by omega)
      by_cases y4 : x1 < (N : Int)
      case neg =>
        have q4 : decide (x1 < (N : Int)) = false := decide_eq_false (by omega)
        go_wp2
        go_roundw
        case rel => exact ⟨k + 1, by omega, by go_num, trivial, by rw [hnext.out, HLED.out, hout.out, decide_eq_true (show (N : Int) ≤ x1 by omega)]; simp⟩
        case measure => simp [intOf]; omega
      have q4 : decide (x1 < (N : Int)) = true := decide_eq_true (by omega)
      go_wp2
      go_roundw
      case rel => exact ⟨k + 1, by omega, by go_num, trivial, by rw [hnext.out, HLED.out, hout.out, decide_eq_false (show ¬ x0 < 0 by omega), decide_eq_false (show ¬ x1 < 0 by omega), decide_eq_false (show ¬ (N : Int) ≤ x0 by omega), decide_eq_false (show ¬ (N : Int) ≤ x1 by omega)]; rfl⟩
      case measure => simp [intOf]; omega
    · obtain rfl : k = l.length := by omega
      have hfin : okV (N : Int) l = led := by
        rw [← HLED.out, List.take_length]; unfold okV; rw [decide_eq_true hn0, decide_eq_true hn1]; rfl
      have hV := HLAW.out
      rw [hfin, Int.toNat_natCast] at hV
      have HFIN := Lib.hid hfin
      clear hfin
      cases led
      case false =>
        have HV := Lib.hid (show acyclicV (N : Int) l = false from hV)
        clear hV
        go_wp2_with (first
          | (go_at_call 13; refine (acyclic_any N l A c _ hl (by omega)).mono ?_; rintro e w1 ⟨rfl, hb1⟩; rw [HV.out])
          | (go_at_call 10; refine (known_any _).mono ?_; rintro e w2 ⟨rfl, hb2⟩))
        go_ret
        exact ⟨rfl, hb1.trans (hb2.mono hb1.size)⟩
      case true =>
        have hmx : max (N : Int) 0 = N := by omega
        have hmn : min (N : Int) 64 = N := by omega
        have hinl : ∀ p ∈ l, 0 ≤ p.1 ∧ p.1 < N := by
          have := HFIN.out
          simp only [okV, Bool.and_eq_true, List.all_eq_true, Bool.not_eq_true', outP, Bool.or_eq_false_iff, decide_eq_false_iff_not] at this
          intro p hp
          have := this.2 p hp
          omega
        have HIN := Lib.hid hinl
        clear hinl
        have HV := Lib.hid (show acyclicV (N : Int) l = !circleV N l from hV)
        clear hV
        cases hcv : circleV N l
        all_goals
          have HCV := Lib.hid hcv
          clear hcv
          have HV2 := Lib.hid (HV.out.trans (congrArg Bool.not HCV.out))
          go_wp2_with (first
            | (go_at_call 13; refine (acyclic_any N l A c _ hl (by omega)).mono ?_; rintro e w1 ⟨rfl, hb1⟩; rw [HV2.out])
            | (go_at_call 15; refine (keep_yes A l.length c _).mono ?_; rintro e w2 ⟨rfl, rfl⟩)
            | (go_at_call 14; refine (circle_any N (by omega) l A c _ (hl.below hb1) HIN.out).mono ?_; rintro e w3 ⟨rfl, hb3⟩; rw [HCV.out])
            | (go_at_call 10; refine (known_any _).mono ?_; rintro e w4 ⟨rfl, hb4⟩))
          go_ret
          exact ⟨rfl, (hb1.trans (hb3.mono hb1.size)).trans (hb4.mono (Nat.le_trans hb1.size hb3.size))⟩
end Go.Proofs.Ytacnbdnmkmpldaa
