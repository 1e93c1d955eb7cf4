/- The reference's SamePairs, at two lists that are the same; its Pairs, of one relation. -/
import Derived.Test.YtacnbdnmkmpldaaGreatSortP
import Derived.Test.YtacnbdnmkmpldaaGreatEvC
import Derived.KernelRfl
import Derived.Test.YtacnbdnmkmpldaaGreatPaR
import Derived.Test.YtacnbdnmkmpldaaGreatNrM
import Derived.Deep.DeepCutAuto
import Derived.Deep.CutBlock
/- The reference's SamePairs, at two lists that are the same. -/
section
namespace Go.Proofs.YtacnbdnmkmpldaaGreat
open Go Go.Proofs Go.RowKit Q
set_option linter.unusedSimpArgs false
set_option linter.unusedVariables false

theorem lexSameP : Region.lexB .any (opsOf Tryz.f27 6) = true := by kernel_rfl

set_option maxRecDepth 100000 in
set_option maxHeartbeats 2000000 in
theorem samePairs_any (l : List (Int × Int)) (A B : Option Addr) (ca cb : Nat) (w : World) (hl : Prs w A l) (hm : Prs w B l) :
    Calls Tryz.prog 27 #[.slice A l.length ca, .slice B l.length cb] w fun r w' => r = .returned (.bool true) ∧ Below w.heap.size w w' := by
  have hl0 := hl.1
  go_enter Tryz.func27, Tryz.ntmps27
  go_wp2
  go_loopw [5] (fun i wr => ∃ k : Nat, k ≤ l.length ∧ i = .int .i64 k ∧ ∃ s : Fut w, wr = s.val) (fun i _ => l.length - (intOf i).toNat)
  case atStart => exact ⟨0, Nat.zero_le _, rfl, ⟨w, Below.refl _ _⟩, rfl⟩
  case round =>
    obtain ⟨k, hk, rfl, s, rfl⟩ := hrel
    by_cases hlt : k < l.length
    case neg =>
      go_wp2
      go_ret
      exact ⟨rfl, s.below⟩
    obtain ⟨b, off, rfl, hcs⟩ := hl.2 (by omega)
    obtain ⟨b2, off2, rfl, hcs2⟩ := hm.2 (by omega)
    obtain ⟨h0, h1⟩ := hcs k hlt
    obtain ⟨g0, g1⟩ := hcs2 k hlt
    obtain ⟨p, hp⟩ : ∃ p, l[k]?.getD (0, 0) = p := ⟨_, rfl⟩
    rw [hp] at h0 h1 g0 g1
    obtain ⟨p0, p1⟩ := p
    dsimp only at h0 h1 g0 g1
    have c0 : ∀ s : Fut w, s.val.cell? ⟨b, off + k * 2, none⟩ = some (.int .i64 p0) := fun s => s.cell h0
    have c1 : ∀ s : Fut w, s.val.cell? ⟨b, off + k * 2 + 1, none⟩ = some (.int .i64 p1) := fun s => s.cell h1
    have d0 : ∀ s : Fut w, s.val.cell? ⟨b2, off2 + k * 2, none⟩ = some (.int .i64 p0) := fun s => s.cell g0
    have d1 : ∀ s : Fut w, s.val.cell? ⟨b2, off2 + k * 2 + 1, none⟩ = some (.int .i64 p1) := fun s => s.cell g1
    clear hcs hcs2 h0 h1 g0 g1 hp hl hm
    go_upto_region 6 with (fail)
    refine wp_region_futs s (by kernel_rfl) (lexOf lexSameP (by kernel_rfl)) ?_
    repeat (first
      | (refine wpQuiet_or rfl rfl rfl rfl ?_; simp only [Act.put, List.setIfInBounds_toArray, List.set_cons_succ, List.set_cons_zero])
      | (refine wpQuiet_and rfl rfl rfl rfl ?_; simp only [Act.put, List.setIfInBounds_toArray, List.set_cons_succ, List.set_cons_zero])
      | go_big_quiet_skip
      | (go_big_quiet_want; go_big_quiet_op; first | go_big_quiet_on | go_big_quiet_call ((fail)))
      | (refine wpQuiet_dead (by first | exact wanted_t rfl rfl rfl | exact wanted_f rfl rfl rfl | exact wanted_ts rfl rfl rfl | exact wanted_fs rfl rfl rfl) rfl (of_decide_eq_true rfl) (by simp only [Bool.not_true, Bool.and_false, Bool.false_and, Bool.or_true, Bool.true_or]) ?_; simp only [Act.put, List.setIfInBounds_toArray, List.set_cons_succ, List.set_cons_zero])
      | (refine wpQuiet_or_und rfl (by first | exact wanted_t rfl rfl rfl | exact wanted_f rfl rfl rfl | exact wanted_ts rfl rfl rfl | exact wanted_fs rfl rfl rfl) rfl (of_decide_eq_true rfl) rfl rfl ?_; simp only [Act.put, List.setIfInBounds_toArray, List.set_cons_succ, List.set_cons_zero])
      | (refine wpQuiet_and_und rfl (by first | exact wanted_t rfl rfl rfl | exact wanted_f rfl rfl rfl | exact wanted_ts rfl rfl rfl | exact wanted_fs rfl rfl rfl) rfl (of_decide_eq_true rfl) rfl rfl ?_; simp only [Act.put, List.setIfInBounds_toArray, List.set_cons_succ, List.set_cons_zero])
      | (refine wpQuiet_und (by first | exact wanted_t rfl rfl rfl | exact wanted_f rfl rfl rfl | exact wanted_ts rfl rfl rfl | exact wanted_fs rfl rfl rfl) rfl (of_decide_eq_true rfl) ?_
         apply Exists.intro
         refine ⟨fun hb => ?_, ?_⟩
         · (skip)
           (try simp only [sel_of hb])
           (try (have hb1 := and_l hb; (try simp only [sel_of hb1]); (try (have hb2 := and_l hb1; (try simp only [sel_of hb2]); (try (have hb3 := and_l hb2; (try simp only [sel_of hb3])))))))
           go_big_quiet_op
           first | ((show Act.eval _ (Operand.tmp _) = _); conv => (lhs; whnf)) | (apply Exists.intro; refine ⟨fun _ => ?_, ?_⟩; (focus (fail)); ((show Act.eval _ (Operand.tmp _) = _); conv => (lhs; whnf)))
         simp only [Act.put, List.setIfInBounds_toArray, List.set_cons_succ, List.set_cons_zero]))
    refine wpQuiet_nil ?_
    intro s2
    go_wp2
    go_roundw
    case rel => exact ⟨k + 1, by omega, by go_num, s2, rfl⟩
    case measure => simp [intOf]; omega
end Go.Proofs.YtacnbdnmkmpldaaGreat
end

/- The reference's Pairs, of one relation. -/
section
namespace Go.Proofs.YtacnbdnmkmpldaaGreat
open Go Go.Proofs Go.RowKit Q

def pTo (n : Nat) (is : Nat → Nat → Bool) (k : Nat) : List (Int × Int) := (List.range k).flatMap fun a => ((List.range n).filter fun b => is a b).map fun b : Nat => ((a : Int), (b : Int))
def pRow (is : Nat → Nat → Bool) (a b : Nat) : List (Int × Int) := ((List.range b).filter fun b => is a b).map fun b : Nat => ((a : Int), (b : Int))
theorem pTo_all (n : Nat) (is : Nat → Nat → Bool) : pTo n is n = pairsOf n is := rfl
theorem pTo_succ (n : Nat) (is : Nat → Nat → Bool) (k : Nat) : pTo n is (k + 1) = pTo n is k ++ pRow is k n := by
  unfold pTo pRow; rw [List.range_succ, List.flatMap_append]; simp
theorem pRow_yes {is : Nat → Nat → Bool} {a b : Nat} (h : is a b = true) : pRow is a (b + 1) = pRow is a b ++ [((a : Int), (b : Int))] := by
  unfold pRow; rw [List.range_succ, List.filter_append, List.map_append]; simp [h]
theorem pRow_no {is : Nat → Nat → Bool} {a b : Nat} (h : is a b = false) : pRow is a (b + 1) = pRow is a b := by
  unfold pRow; rw [List.range_succ, List.filter_append, List.map_append]; simp [h]
theorem pRow_len (is : Nat → Nat → Bool) (a b : Nat) : (pRow is a b).length ≤ b := by
  have := List.length_filter_le (fun b => is a b) (List.range b)
  simpa [pRow] using this
theorem pTo_len (n : Nat) (is : Nat → Nat → Bool) : ∀ k, (pTo n is k).length ≤ n * k
  | 0 => by simp [pTo]
  | k + 1 => by
    have := pTo_len n is k
    have h2 := pRow_len is k n
    rw [pTo_succ, List.length_append, Nat.mul_add]; omega
theorem pSum_len (n : Nat) (is : Nat → Nat → Bool) (a b : Nat) (hn : n ≤ 1000) (ha : a ≤ n) (hb : b ≤ n) : (pTo n is a ++ pRow is a b).length ≤ 1001000 := by
  have h1 := pTo_len n is a
  have h2 := pRow_len is a b
  have h3 : n * a ≤ 1000 * 1000 := Nat.mul_le_mul hn (Nat.le_trans ha hn)
  rw [List.length_append]; omega
theorem src_two (w : World) (u v : Value) (t : TypeId) : SrcAt (w.alloc (.cells #[u, v] t)) (some ⟨w.heap.size, 0, none⟩) [u, v] :=
  fun _ => ⟨w.heap.size, 0, rfl, fun j y hy => by have := cells_pair_new w u v t j y hy; rw [addr_add] at this; exact this⟩
theorem owned_prs2 {w : World} {base : Nat} {e : TypeId} {v : Value} {l : List (Int × Int)} (h : w.ownsRow base e 2 v l.length (l.flatMap cellsP)) (hl : l.length ≤ 17592186044416) : ∃ A c, v = .slice A l.length c ∧ Prs w A l := by
  rcases own_form h with ⟨rfl, h0⟩ | ⟨g, c, rfl, _⟩
  · exact ⟨none, 0, by rw [h0], hl, fun hp => by omega⟩
  · exact ⟨_, c, rfl, prs_of_owned hl h⟩

/-- The function that tells a relation. -/
def relF (which : Nat) : Nat :=
  match which with
  | 1 => 67
  | 2 => 68
  | 3 => 69
  | 4 => 70
  | 5 => 71
  | _ => 0
/-- What it hands back. -/
def PairsAre (l : List (Int × Int)) (w : World) (r : Ending) (w' : World) : Prop := ∃ A c, r = .returned (.slice A l.length c) ∧ Prs w' A l ∧ Below w.heap.size w w'

set_option maxRecDepth 100000 in
set_option maxHeartbeats 4000000 in
theorem rpairs_any (x : Ex) (Ae Af Ao : Option Addr) (ce cf co which : Nat) (is : Nat → Nat → Bool) (w : World) (he0 : x.evs.length ≤ 1000) (hwh : which = 1 ∨ which = 2 ∨ which = 3 ∨ which = 4 ∨ which = 5)
    (hcall : ∀ (a b : Nat), a < x.evs.length → b < x.evs.length → ∀ W', Below w.heap.size w W' → Calls Tryz.prog (relF which) #[.agg #[.slice Ae x.evs.length ce, .slice Af x.src.length cf, .slice Ao x.order.length co], .int .i64 a, .int .i64 b] W' fun r w' => r = .returned (.bool (is a b)) ∧ Below W'.heap.size W' w') :
    Calls Tryz.prog 28 #[.agg #[.slice Ae x.evs.length ce, .slice Af x.src.length cf, .slice Ao x.order.length co], .int .i64 which] w (PairsAre (pairsOf x.evs.length is) w) := by
  obtain ⟨i0, hi, hz0, hz1, hz2⟩ := info_parts infoP
  go_enter Tryz.func28, Tryz.ntmps28
  go_upto_region 1 with (fail)
  obtain ⟨W0, s0, hW0, hbx, hsz, b0, b1, b2⟩ := box3 w 26 (.slice Ae x.evs.length ce) (.slice Af x.src.length cf) (.slice Ao x.order.length co)
  rw [hW0]
  clear hW0
  have hend : ∀ W', Below W0.heap.size W0 W' → Below w.heap.size w W' := fun W' h => hbx.trans (h.mono (Nat.le_of_lt hsz))
  have HEND := Lib.hid hend
  have HCALL := Lib.hid (fun (a b : Nat) (ha : a < x.evs.length) (hb : b < x.evs.length) (W' : World) (h : Below W0.heap.size W0 W') => hcall a b ha hb W' (hend W' h))
  have hB0 := s0.below
  have c0 := b0 s0
  clear hend hcall
  go_upto_region 4 with (fail)
  clear c0
  go_loopw [5, 7] (fun v i wr => ∃ k : Nat, k ≤ x.evs.length ∧ i = .int .i64 k ∧ wr.ownsRow W0.heap.size 38 2 v (pTo x.evs.length is k).length ((pTo x.evs.length is k).flatMap cellsP) ∧ Below W0.heap.size W0 wr) (fun _ i _ => x.evs.length - (intOf i).toNat)
  case atStart => exact ⟨0, Nat.zero_le _, rfl, World.ownsRow_nil _ _ _ _, hB0⟩
  case round =>
    obtain ⟨a, ha, rfl, hown, hbw⟩ := hrel
    by_cases hal : a < x.evs.length
    case neg =>
      obtain rfl : a = x.evs.length := by omega
      rw [pTo_all] at hown
      have hlen := pSum_len x.evs.length is x.evs.length 0 he0 (Nat.le_refl _) (Nat.zero_le _)
      rw [List.length_append, pTo_all] at hlen
      obtain ⟨A, c, rfl, hp⟩ := owned_prs2 hown (by omega)
      have HP := Lib.hid hp
      have HBW := Lib.hid hbw
      clear hp hown hlen hbw
      go_wp2
      go_ret
      exact ⟨A, c, rfl, HP.out, HEND.out _ HBW.out⟩
    go_upto_region 7 with (fail)
    go_loopw [5, 8] (fun v i wr => ∃ b : Nat, b ≤ x.evs.length ∧ i = .int .i64 b ∧ wr.ownsRow W0.heap.size 38 2 v (pTo x.evs.length is a ++ pRow is a b).length ((pTo x.evs.length is a ++ pRow is a b).flatMap cellsP) ∧ Below W0.heap.size W0 wr) (fun _ i _ => x.evs.length - (intOf i).toNat)
    case atStart => exact ⟨0, Nat.zero_le _, rfl, by simpa [pRow] using hown, hbw⟩
    case round =>
      obtain ⟨b, hb, rfl, hown2, hbw2⟩ := hrel
      by_cases hbl : b < x.evs.length
      case neg =>
        obtain rfl : b = x.evs.length := by omega
        go_wp2
        go_roundw
        case rel => exact ⟨a + 1, by omega, by go_num, by rw [pTo_succ]; exact hown2, hbw2⟩
        case measure => simp [intOf]; omega
      have c0 := b0 ⟨_, hbw2⟩
      have c1 := b1 ⟨_, hbw2⟩
      have c2 := b2 ⟨_, hbw2⟩
      dsimp only at c0 c1 c2
      have HC := Lib.hid (HCALL.out a b hal hbl _ hbw2)
      have HBW2 := Lib.hid hbw2
      have HOWN2 := Lib.hid hown2
      have hbz := hbw2.size
      clear hown hbw hown2
      go_upto_block 4 with (fail)
      go_cut [9] (fun v9 wx => v9 = .bool (is a b) ∧ Below wr.heap.size wr wx)
      case first =>
        rcases hwh with rfl | rfl | rfl | rfl | rfl
        · go_wp2_with (go_at_call 67; refine HC.out.mono ?_; rintro e w' ⟨rfl, hb⟩)
          go_meet
          exact ⟨rfl, hb⟩
        · go_wp2_with (go_at_call 68; refine HC.out.mono ?_; rintro e w' ⟨rfl, hb⟩)
          go_meet
          exact ⟨rfl, hb⟩
        · go_wp2_with (go_at_call 69; refine HC.out.mono ?_; rintro e w' ⟨rfl, hb⟩)
          go_meet
          exact ⟨rfl, hb⟩
        · go_wp2_with (go_at_call 70; refine HC.out.mono ?_; rintro e w' ⟨rfl, hb⟩)
          go_meet
          exact ⟨rfl, hb⟩
        · go_wp2_with (go_at_call 71; refine HC.out.mono ?_; rintro e w' ⟨rfl, hb⟩)
          go_meet
          exact ⟨rfl, hb⟩
      case rest =>
        obtain ⟨rfl, hbc⟩ := hcut
        have hownc := HOWN2.out.kept ⟨hbc.os, hbc.tape, hbc.output, hbc.size, fun k hk _ => hbc.block k hk⟩ (row := none) (by cases Value.ownBlock _ <;> simp)
        have HBC := Lib.hid (HBW2.out.trans (hbc.mono hbz))
        have hlen := pSum_len x.evs.length is a b he0 (Nat.le_of_lt hal) hb
        have hcz := HBC.out.size
        clear hbc
        cases his : is a b
        · have HIS := Lib.hid his
          have HOWNC := Lib.hid hownc
          clear his hownc
          go_wp2
          go_roundw
          case rel => exact ⟨b + 1, by omega, by go_num, by rw [pRow_no HIS.out]; exact HOWNC.out, HBC.out⟩
          case measure => simp [intOf]; omega
        · have HIS := Lib.hid his
          obtain ⟨A5, c5, rfl⟩ := own_slice hownc
          have HLEN := Lib.hid hlen
          clear his hlen
          generalize hL : pTo x.evs.length is a ++ pRow is a b = L at *
          have hlL := HLEN.out
          have HL := Lib.hid hL
          clear hL
          go_wp2_with (at_builtin; refine wpList_append_src _ rfl _ _ 29 rfl W0.heap.size 38 i0 _ 2 16 Tryz.underlying29 hi hz0 hz1 hz2 rfl (by decide) (.slice A5 L.length c5) L.length (L.flatMap cellsP) rfl (hownc.alloc _) (some ⟨wc.heap.size, 0, none⟩) 1 1 (cellsP ((a : Int), (b : Int))) rfl rfl (src_two wc _ _ _) (one_cellsP _) (by unfold maxLen; omega) (by omega) (by simp; omega) ?_; intro v' w2 hown' hgrow hat; obtain ⟨A6, c6, rfl⟩ := own_slice hown')
          have HOWN := Lib.hid hown'
          have HG := Lib.hid ((HBC.out.alloc hcz (.cells #[.int .i64 a, .int .i64 b] 38)).grown hgrow (by simp; omega) (fun j e => (hownc.lt j e).1))
          clear hown' hgrow hat hownc
          go_roundw
          case rel => exact ⟨b + 1, by omega, by go_num, by rw [pRow_yes HIS.out, ← List.append_assoc, HL.out]; simpa [cellsP] using HOWN.out, HG.out⟩
          case measure => simp [intOf]; omega
end Go.Proofs.YtacnbdnmkmpldaaGreat
end

