/- events.Po's iterator: program order. -/
import Derived.Test.YtacnbdnmkmpldaaGreatPaP
import Derived.Test.YtacnbdnmkmpldaaGreatSortP
import Derived.Test.YtacnbdnmkmpldaaGreatEvC
import Derived.Sort.QuietIn
namespace Go.Proofs.YtacnbdnmkmpldaaGreat
open Go Go.BigFrame Go.Proofs Go.RowKit Go.Sort Q
set_option linter.unusedSimpArgs false
set_option linter.unusedVariables false
attribute [local go_sem] Oper.semAt_some

def rowP (x : Ex) (a b : Nat) : List (Int × Int) := ((List.range b).filter fun b => isPo x a b).map fun b : Nat => ((a : Int), (b : Int))
def poTo (x : Ex) (k : Nat) : List (Int × Int) := (List.range k).flatMap fun a => rowP x a x.evs.length
theorem poTo_all (x : Ex) : poTo x x.evs.length = poL x := rfl
theorem poTo_succ (x : Ex) (k : Nat) : poTo x (k + 1) = poTo x k ++ rowP x k x.evs.length := by
  unfold poTo; rw [List.range_succ, List.flatMap_append]; simp
theorem rowP_yes {x : Ex} {a b : Nat} (h : isPo x a b = true) : rowP x a (b + 1) = rowP x a b ++ [((a : Int), (b : Int))] := by
  unfold rowP; rw [List.range_succ, List.filter_append, List.map_append]; simp [h]
theorem rowP_no {x : Ex} {a b : Nat} (h : isPo x a b = false) : rowP x a (b + 1) = rowP x a b := by
  unfold rowP; rw [List.range_succ, List.filter_append, List.map_append]; simp [h]
theorem rowP_none (x : Ex) (a : Nat) : ∀ b, b ≤ a + 1 → rowP x a b = []
  | 0, _ => rfl
  | b + 1, h => by rw [rowP_no (by unfold isPo; rw [decide_eq_false (by omega)]; rfl), rowP_none x a b (by omega)]
theorem rowP_mono (x : Ex) (a : Nat) {b n : Nat} (h : b ≤ n) : (rowP x a b).length ≤ (rowP x a n).length := by
  induction n with
  | zero => obtain rfl : b = 0 := by omega
            exact Nat.le_refl _
  | succ n ih =>
    by_cases hb : b = n + 1
    · subst hb; exact Nat.le_refl _
    · have := ih (by omega)
      cases hp : isPo x a n
      · rw [rowP_no hp]; exact this
      · rw [rowP_yes hp, List.length_append]; omega
theorem poTo_mono (x : Ex) {k n : Nat} (h : k ≤ n) : (poTo x k).length ≤ (poTo x n).length := by
  induction n with
  | zero => obtain rfl : k = 0 := by omega
            exact Nat.le_refl _
  | succ n ih =>
    by_cases hb : k = n + 1
    · subst hb; exact Nat.le_refl _
    · have := ih (by omega)
      rw [poTo_succ, List.length_append]; omega
theorem po_room {x : Ex} {a b : Nat} (ha : a < x.evs.length) (hb : b < x.evs.length) (h : isPo x a b = true) : (poTo x a ++ rowP x a b).length < (poL x).length := by
  have h1 := poTo_mono x (show a + 1 ≤ x.evs.length by omega)
  rw [poTo_all, poTo_succ, List.length_append] at h1
  have h2 := rowP_mono x a (show b + 1 ≤ x.evs.length by omega)
  rw [rowP_yes h, List.length_append] at h2
  rw [List.length_append]
  simp at h2; omega

theorem below_drewN2 {n : Nat} {A B : World} (h : Below n A B) (q : Nat) : Below n A (B.drewN q) := ⟨h.os, h.tape, h.output, h.size, h.block⟩
set_option maxRecDepth 100000 in
set_option maxHeartbeats 20000000 in
theorem po_stops (n : Nat) (hn : 1 ≤ n) (Bx : Nat) (Ae : Option Addr) (ce : Nat) (x : Ex) (w : World) (hBx : Bx < w.heap.size) (hc : w.cell? ⟨Bx, 0, none⟩ = some (.slice Ae x.evs.length ce)) (hE : Evs w Ae x.evs) :
    SeqStopsK Fence.wide n Tryz.prog 57 #[.pointer (some ⟨Bx, 0, none⟩)] encP (Kp w.heap.size) (fun ys => ys = poL x) (fun _ => True) (poL x).length w := by
  intro lp J Jx W hW habJ _ hY h0
  have hro : Fence.wide.round = none := rfl
  have hreach := hE.1
  have hJd : ∀ pre X, J pre X → ∀ q, J pre (X.drewN q) := fun pre X h q => habJ pre X (X.drewN q) none h ⟨rfl, rfl, rfl, Nat.le_refl _, fun _ _ _ => rfl⟩ (fun r e => by cases e)
  have hcW : ∀ wr, Below w.heap.size W wr → wr.cell? ⟨Bx, 0, none⟩ = some (.slice Ae x.evs.length ce) := fun wr h => ((hW.trans h).cell (p := ⟨Bx, 0, none⟩) hBx).trans hc
  have HCW := Lib.hid hcW
  have HE := Lib.hid hE
  have HW := Lib.hid hW
  have HJD := Lib.hid hJd
  have c0 := hcW W (Below.refl _ _)
  clear hE hW hcW hJd habJ
  refine callsIn_of_wp Tryz.func57 rfl trivial ?_ rfl
  simp only [Tryz.ntmps57, List.size_toArray, List.length_cons, List.length_nil, Nat.reduceAdd, Nat.reduceSub, Array.replicate_succ, Array.replicate_zero, List.push_toArray, List.append_toArray, List.nil_append, List.cons_append]
  gi_wp2
  clear c0
  gi_loopw [8] (fun i wr => ∃ k : Nat, k ≤ x.evs.length ∧ i = .int .i64 k ∧ J (poTo x k) wr ∧ Below w.heap.size W wr)
    (fun i _ => x.evs.length - (intOf i).toNat)
  case atStart => exact ⟨0, Nat.zero_le _, rfl, h0, Below.refl _ _⟩
  case round =>
    obtain ⟨a, ha, rfl, hJs, hnx⟩ := hrel
    by_cases hal : a < x.evs.length
    case neg =>
      obtain rfl : a = x.evs.length := by omega
      gi_wp2
      go_end0
      exact ⟨⟨_, rfl⟩, .inl ⟨_, by rw [poTo_all], hJs⟩⟩
    have HJS := Lib.hid hJs
    have HNX := Lib.hid hnx
    clear hJs hnx
    gi_wp2
    gi_loopw [4] (fun i wr => ∃ b : Nat, a + 1 ≤ b ∧ b ≤ x.evs.length ∧ i = .int .i64 b ∧ J (poTo x a ++ rowP x a b) wr ∧ Below w.heap.size W wr)
      (fun i _ => x.evs.length - (intOf i).toNat)
    case atStart => exact ⟨a + 1, by omega, by omega, by go_num, by rw [rowP_none x a (a + 1) (by omega), List.append_nil]; exact HJS.out, HNX.out⟩
    case round =>
      obtain ⟨b, hab, hb, rfl, hJ2, hnx2⟩ := hrel
      have c0 := HCW.out wr hnx2
      by_cases hbl : b < x.evs.length
      case neg =>
        obtain rfl : b = x.evs.length := by omega
        gi_wp2
        go_roundw
        case rel => exact ⟨a + 1, by omega, by go_num, by rw [poTo_succ]; exact hJ2, hnx2⟩
        case measure => simp [intOf]; omega
      have hEr := HE.out.below (HW.out.trans hnx2)
      obtain ⟨be, oe, rfl, _⟩ := hEr.2 (by omega)
      have hEa := hEr.at a hal
      have hEb := hEr.at b hbl
      obtain ⟨e, hen⟩ : ∃ e, x.evs[a]?.getD zev = e := ⟨_, rfl⟩
      obtain ⟨g, hgn⟩ : ∃ e, x.evs[b]?.getD zev = e := ⟨_, rfl⟩
      rw [hen] at hEa
      rw [hgn] at hEb
      have hpo : isPo x a b = (decide (0 ≤ e.hart) && e.hart == g.hart) := by
        unfold isPo ev
        rw [List.getD_eq_getElem?_getD, List.getD_eq_getElem?_getD, hen, hgn, decide_eq_true (by omega : a < b)]; rfl
      have f0 := hEa.c0
      have g0 := hEb.c0
      have HPO := Lib.hid hpo
      have HNX2 := Lib.hid hnx2
      have HJ2 := Lib.hid hJ2
      clear hEr hEa hEb hen hgn hpo hJ2 hnx2
      gi_upto_region 6 with (fail)
      by_cases t1 : 0 ≤ e.hart
      case neg =>
        have u1 : decide (0 ≤ e.hart) = false := decide_eq_false t1
        have HT := Lib.hid (show isPo x a b = false from by rw [HPO.out, u1]; rfl)
        clear t1
        refine wpIn_region_quiet_lit rfl (by kernel_rfl) (by kernel_rfl) ?_
        repeat (gi_big_quiet_step (fail))
        refine wpQuietIn_skip (fun _ _ _ _ => trivial) rfl ?_
        simp only [Act.put, List.setIfInBounds_toArray, List.set_cons_succ, List.set_cons_zero]
        repeat (gi_big_quiet_step (fail))
        refine wpQuietIn_nil ?_
        intro _ hw'
        obtain ⟨nq, hw''⟩ := hw'
        subst hw''
        gi_wp2
        go_roundw
        case rel => exact ⟨b + 1, by omega, by omega, by go_num, by rw [rowP_no HT.out]; exact HJD.out _ _ HJ2.out _, below_drewN2 HNX2.out _⟩
        case measure => simp [intOf]; omega
      have u1 : decide (0 ≤ e.hart) = true := decide_eq_true t1
      by_cases t2 : e.hart = g.hart
      case neg =>
        have u2 : (e.hart == g.hart) = false := beq_eq_false_iff_ne.2 t2
        have HT := Lib.hid (show isPo x a b = false from by rw [HPO.out, u1, u2]; rfl)
        clear t2
        refine wpIn_region_quiet_lit rfl (by kernel_rfl) (by kernel_rfl) ?_
        repeat (gi_big_quiet_step (fail))
        refine wpQuietIn_skip (fun _ _ _ _ => trivial) rfl ?_
        simp only [Act.put, List.setIfInBounds_toArray, List.set_cons_succ, List.set_cons_zero]
        repeat (gi_big_quiet_step (fail))
        refine wpQuietIn_nil ?_
        intro _ hw'
        obtain ⟨nq, hw''⟩ := hw'
        subst hw''
        gi_wp2
        go_roundw
        case rel => exact ⟨b + 1, by omega, by omega, by go_num, by rw [rowP_no HT.out]; exact HJD.out _ _ HJ2.out _, below_drewN2 HNX2.out _⟩
        case measure => simp [intOf]; omega
      have u2 : (e.hart == g.hart) = true := beq_iff_eq.2 t2
      have HT := Lib.hid (show isPo x a b = true from by rw [HPO.out, u1, u2]; rfl)
      clear t2
      obtain ⟨fn, tmps, assign, body, hy, hR⟩ := hY _ ((a : Int), (b : Int)) wr.drew (HJD.out _ _ HJ2.out 1) (po_room hal hbl HT.out)
      dsimp only [encP] at hy
      gi_region_with (refine hR.mono ?_; rintro e W3 hh; obtain ⟨bb, rfl, hcase⟩ : ∃ bb, e = .returned (.bool bb) ∧ ((bb = true ∧ J (poTo x a ++ rowP x a b ++ [((a : Int), (b : Int))]) W3 ∧ Kp w.heap.size wr.drew W3) ∨ (bb = false ∧ Jx (poTo x a ++ rowP x a b ++ [((a : Int), (b : Int))]) W3)) := by (rcases hh with ⟨rfl, h1, h2⟩ | ⟨rfl, h1⟩; exact ⟨true, rfl, .inl ⟨rfl, h1, h2⟩⟩; exact ⟨false, rfl, .inr ⟨rfl, h1⟩⟩))
      all_goals
        rcases hcase with ⟨rfl, hJ3, hk3⟩ | ⟨rfl, hJx3⟩
        · gi_wp2
          go_roundw
          case rel => exact ⟨b + 1, by omega, by omega, by go_num, by rw [rowP_yes HT.out, ← List.append_assoc]; exact hJ3, HNX2.out.drew.trans hk3.1⟩
          case measure => simp [intOf]; omega
        · gi_wp2
          refine bodyPost_ret (results_none rfl _ _ _) rfl ?_
          first | exact ⟨⟨_, rfl⟩, .inr ⟨_, hJx3⟩⟩ | exact ⟨⟨_, rfl⟩, .inr ⟨_, trivial, hJx3⟩⟩
end Go.Proofs.YtacnbdnmkmpldaaGreat
