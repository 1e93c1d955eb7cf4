/- The reference's Circle: places that nothing leads to are taken away. -/
import Derived.Test.YtacnbdnmkmpldaaAcC
import Derived.Laws.OwnMore
import Derived.OwnWalk
namespace Go.Proofs.Ytacnbdnmkmpldaa
open Go Go.Proofs Go.RowKit Q
set_option linter.unusedSimpArgs false
set_option linter.unusedVariables false

theorem infoB : (Try.prog.info? 4).map (fun i => (i.zero, i.size, i.bytes)) = some (some (.bool false), 1, 1) := by kernel_rfl

/-- A row of flags, N of them, in block B. -/
def GoneAt (W : World) (B N : Nat) (g : Int → Bool) : Prop := ∃ cur : Array Value, W.heap[B]? = some (.cells cur 4 (0, 0)) ∧ ∀ j : Nat, j < N → cur[j]? = some (.bool (g j))
theorem GoneAt.cell {W : World} {B N : Nat} {g : Int → Bool} (h : GoneAt W B N g) {j : Nat} (hj : j < N) : W.cell? ⟨B, j, none⟩ = some (.bool (g j)) := by
  obtain ⟨cur, hb, hc⟩ := h
  have := hc j hj
  simp [World.cell?, hb, this]
theorem GoneAt.frozen {W : World} {B N : Nat} {g : Int → Bool} (h : GoneAt W B N g) (j : Nat) : W.frozen? ⟨B, j, none⟩ = false := by
  obtain ⟨cur, hb, hc⟩ := h
  simp [World.frozen?, hb]
theorem GoneAt.set {W : World} {B N : Nat} {g : Int → Bool} (h : GoneAt W B N g) {p : Nat} (hp : p < N) : GoneAt (W.setCell ⟨B, p, none⟩ (.bool true)) B N (fun x => if x = (p : Int) then true else g x) := by
  obtain ⟨cur, hb, hc⟩ := h
  obtain ⟨hlt, hk⟩ := Array.getElem?_eq_some_iff.1 hb
  have hps := (Array.getElem?_eq_some_iff.1 (hc p hp)).1
  refine ⟨cur.setIfInBounds p (.bool true), ?_, fun j hj => ?_⟩
  · show (W.heap.modify B _)[B]? = _
    rw [Array.getElem?_eq_getElem (by rw [Array.size_modify]; exact hlt), Array.getElem_modify_self, hk]
    rfl
  · by_cases hjp : j = p
    · subst hjp
      rw [Array.getElem?_setIfInBounds_self_of_lt hps]
      show _ = some (Value.bool (if (j : Int) = (j : Int) then true else g j))
      rw [if_pos rfl]
    · rw [Array.getElem?_setIfInBounds_ne (by omega), hc j hj]
      show _ = some (Value.bool (if (j : Int) = (p : Int) then true else g j))
      rw [if_neg (by omega)]
theorem peel_next {l : List (Int × Int)} {g : Int → Bool} {p : Nat} : peelTo l g (p + 1) = if ledB l (peelTo l g p) p = true then peelTo l g p else fun x => if x = (p : Int) then true else peelTo l g p x := by
  show peel1 l (peelTo l g p) (p : Int) = _
  unfold peel1; rfl

set_option maxRecDepth 100000 in
set_option maxHeartbeats 4000000 in
theorem circle_any (N : Nat) (hN : N ≤ 64) (l : List (Int × Int)) (A : Option Addr) (c : Nat) (w : World) (hl : Prs w A l) (hin : ∀ p ∈ l, 0 ≤ p.1 ∧ p.1 < N) :
    Calls Try.prog 14 #[.int .i64 N, .slice A l.length c] w fun e w' => e = .returned (.bool (circleV N l)) ∧ Below w.heap.size w w' := by
  obtain ⟨i0, hi, hz0, hz1, hz2⟩ := info_parts infoB
  have hl0 := hl.1
  go_enter Try.func14, Try.ntmps14
  go_wp2_with (at_make; refine wpList_make_full _ rfl _ _ 60 rfl w.heap.size 4 i0 (.bool false) 1 Try.underlying60 hi hz0 hz1 .i64 .i64 N N N rfl rfl rfl rfl (by rw [hz2]; omega) (by unfold maxLen; omega) (Nat.le_refl _) ?_; intro w1 hown hgrow)
  have hB1 : Below w.heap.size w w1 := (Below.refl _ _).grown hgrow (Nat.le_refl _) (fun j e => by cases e)
  have hG0 : GoneAt w1 w.heap.size N (fun _ => false) := by
    rcases hown.2 with ⟨h, _⟩ | ⟨g, cap, cur, e', _, hb, _, _, _, ht⟩
    · cases h
    · injection e' with e1 _ _; injection e1 with e1; injection e1 with e1; subst e1
      refine ⟨cur, hb, fun j hj => ?_⟩
      rw [show (Value.bool false).cells = #[.bool false] from rfl, Nat.mul_one, toList_madeCells_one] at ht
      have h1 : (cur.toList.take N)[j]? = (List.replicate N (Value.bool false))[j]? := by rw [ht]
      rw [List.getElem?_take_of_lt hj, Array.getElem?_toList] at h1
      rw [h1]; simp [hj]
  have hBs : w.heap.size ≤ w1.heap.size := hB1.size
  clear hown hgrow
  generalize hgb : w.heap.size = B at hG0 hB1 ⊢
  have HGB := Lib.hid hgb
  clear hgb
  go_wp2
  go_loopw [6] (fun i wr => ∃ r : Nat, r ≤ N ∧ i = .int .i64 r ∧ GoneAt wr B N (peelR l N r) ∧ Below B w wr) (fun i _ => N - (intOf i).toNat)
  case atStart => exact ⟨0, Nat.zero_le _, rfl, hG0, hB1⟩
  case round =>
    obtain ⟨r, hr, rfl, hG, hB⟩ := hrel
    by_cases hrN : r < N
    case neg =>
      obtain rfl : r = N := by omega
      go_wp2
      go_loopw [10] (fun i wx => ∃ k : Nat, k ≤ r ∧ i = .int .i64 k ∧ wx = wr ∧ ((List.range k).any fun p : Nat => !peelR l r r (p : Int)) = false) (fun i _ => r - (intOf i).toNat)
      case atStart => exact ⟨0, Nat.zero_le _, rfl, rfl, rfl⟩
      case round =>
        obtain ⟨k, hk, rfl, rfl, hany⟩ := hrel
        have HANY := Lib.hid hany
        clear hany
        by_cases hkr : k < r
        · have hck := hG.cell hkr
          generalize hg : peelR l r r (k : Int) = b at hck
          have HG := Lib.hid hg
          clear hg
          cases b
          · go_wp2
            go_ret
            exact ⟨ret_bool (by unfold circleV; exact List.any_eq_true.2 ⟨k, List.mem_range.2 hkr, by rw [HG.out]; rfl⟩), by rw [HGB.out]; exact hB⟩
          · go_wp2
            go_roundw
            case rel => exact ⟨k + 1, by omega, by go_num, trivial, by rw [List.range_succ, List.any_append, HANY.out]; simp [HG.out]⟩
            case measure => simp [intOf]; omega
        · obtain rfl : k = r := by omega
          go_wp2
          go_ret
          exact ⟨ret_bool HANY.out, by rw [HGB.out]; exact hB⟩
    go_wp2
    go_loopw [7] (fun i wx => ∃ p : Nat, p ≤ N ∧ i = .int .i64 p ∧ GoneAt wx B N (peelTo l (peelR l N r) p) ∧ Below B w wx) (fun i _ => N - (intOf i).toNat)
    case atStart => exact ⟨0, Nat.zero_le _, rfl, hG, hB⟩
    case round =>
      obtain ⟨p, hp, rfl, hG2, hB2⟩ := hrel
      by_cases hpN : p < N
      case neg =>
        obtain rfl : p = N := by omega
        go_wp2
        go_roundw
        case rel => exact ⟨r + 1, by omega, by go_num, hG2, hB2⟩
        case measure => simp [intOf]; omega
      generalize hgg : peelTo l (peelR l N r) p = g at hG2
      have HGG := Lib.hid hgg
      clear hgg
      have hlw := hl.below (show Below w.heap.size w wr from by rw [HGB.out]; exact hB2)
      go_wp2
      go_loopw [8, 9] (fun d i wx => ∃ k : Nat, k ≤ l.length ∧ i = .int .i64 k ∧ wx = wr ∧ d = .bool ((l.take k).any fun q => q.2 == (p : Int) && !g q.1)) (fun _ i _ => l.length - (intOf i).toNat)
      case atStart => exact ⟨0, Nat.zero_le _, rfl, rfl, rfl⟩
      case round =>
        obtain ⟨k, hk, rfl, rfl, hd⟩ := hrel
        generalize hled : ((l.take k).any fun q => q.2 == (p : Int) && !g q.1) = led at hd
        subst hd
        have HLED := Lib.hid hled
        clear hled
        by_cases hkl : k < l.length
        · obtain ⟨b, off, rfl, hcs⟩ := hlw.2 (by omega)
          obtain ⟨hc0, hc1⟩ := hcs k hkl
          obtain ⟨x, hx⟩ : ∃ x, l[k]?.getD (0, 0) = x := ⟨_, rfl⟩
          rw [hx] at hc0 hc1
          obtain ⟨x0, x1⟩ := x
          dsimp only at hc0 hc1
          have hxin := hin (x0, x1) (by rw [List.getElem?_eq_getElem hkl] at hx; rw [← (show l[k] = (x0, x1) from hx)]; exact List.getElem_mem hkl)
          dsimp only at hxin
          have hnext := Lib.hid (any_take_succ (fun q => q.2 == (p : Int) && !g q.1) l hkl hx)
          clear hcs hx
          cases led
          case true =>
            go_wp2
            go_roundw
            case rel => exact ⟨k + 1, by omega, by go_num, trivial, by rw [hnext.out, HLED.out]; rfl⟩
            case measure => simp [intOf]; omega
          by_cases hx1 : x1 = (p : Int)
          case neg =>
            have q1 : (x1 == (p : Int)) = false := by simp [hx1]
            have Q1 := Lib.hid q1
            go_wp2
            go_roundw
            case rel => exact ⟨k + 1, by omega, by go_num, trivial, by rw [hnext.out, HLED.out, Q1.out]; rfl⟩
            case measure => simp [intOf]; omega
          have q1 : (x1 == (p : Int)) = true := by simp [hx1]
          have Q1 := Lib.hid q1
          have HX1 := Lib.hid hx1
          clear hx1
          obtain ⟨m, rfl⟩ := Int.eq_ofNat_of_zero_le hxin.1
          have hcm := hG2.cell (j := m) (by omega)
          generalize hgm : g (m : Int) = gm at hcm
          have HGM := Lib.hid hgm
          clear hgm
          have hm0 : (0 : Int) ≤ (m : Int) := by omega
          have hmN : (m : Int) < (N : Int) := by omega
          go_wp2
          go_roundw
          case rel => exact ⟨k + 1, by omega, by go_num, trivial, by rw [hnext.out, HLED.out, Q1.out, HGM.out]; rfl⟩
          case measure => simp [intOf]; omega
        · obtain rfl : k = l.length := by omega
          have hfin : ledB l g (p : Int) = led := by rw [← HLED.out, List.take_length]; rfl
          have HFIN := Lib.hid hfin
          clear hfin
          cases led
          · have hcp := hG2.cell hpN
            have hfp := hG2.frozen p
            have hset := hG2.set hpN
            have HSET := Lib.hid hset
            have hp0 : (0 : Int) ≤ (p : Int) := by omega
            have hpN' : (p : Int) < (N : Int) := by omega
            go_wp2
            go_roundw
            case rel =>
              refine ⟨p + 1, by omega, by go_num, ?_, hB2.setCell (p := ⟨B, p, none⟩) (Nat.le_refl _) _⟩
              rw [peel_next, HGG.out, HFIN.out]
              exact HSET.out
            case measure => simp [intOf]; omega
          · go_wp2
            go_roundw
            case rel =>
              refine ⟨p + 1, by omega, by go_num, ?_, hB2⟩
              rw [peel_next, HGG.out, HFIN.out]
              exact hG2
            case measure => simp [intOf]; omega
end Go.Proofs.Ytacnbdnmkmpldaa
