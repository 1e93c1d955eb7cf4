/- events.Co's iterator: of every order row, one store ahead of another. -/
import Derived.Test.YtacnbdnmkmpldaaGreatSortP
import Derived.Test.YtacnbdnmkmpldaaGreatEvC
import Derived.Scope
namespace Go.Proofs.YtacnbdnmkmpldaaGreat
open Go Go.Proofs Go.RowKit Go.Sort Q
set_option linter.unusedSimpArgs false
set_option linter.unusedVariables false
attribute [local go_sem] Oper.semAt_some

def aheadTo (l : List Int) (i : Nat) : List (Int × Int) := (List.range i).flatMap fun a => (l.drop (a + 1)).map fun b => (l[a]?.getD 0, b)
theorem aheadTo_succ (l : List Int) (i : Nat) : aheadTo l (i + 1) = aheadTo l i ++ (l.drop (i + 1)).map fun b => (l[i]?.getD 0, b) := by
  simp [aheadTo, List.range_succ]
theorem ahead_all : ∀ l : List Int, aheadTo l l.length = aheadL l
  | [] => rfl
  | a :: l => by
    have ih := ahead_all l
    unfold aheadTo at ih ⊢
    rw [List.length_cons, List.range_succ_eq_map, List.flatMap_cons, List.flatMap_map]
    show _ ++ _ = (l.map fun b => (a, b)) ++ aheadL l
    rw [← ih]
    simp
theorem aheadTo_mono (l : List Int) {i n : Nat} (h : i ≤ n) : (aheadTo l i).length ≤ (aheadTo l n).length := by
  induction n with
  | zero => obtain rfl : i = 0 := by omega
            exact Nat.le_refl _
  | succ n ih =>
    by_cases hi : i = n + 1
    · subst hi; exact Nat.le_refl _
    · have := ih (by omega)
      rw [aheadTo_succ, List.length_append]; omega
def coTo (x : Ex) (k : Nat) : List (Int × Int) := (x.order.take k).flatMap aheadL
theorem coTo_all (x : Ex) : coTo x x.order.length = coL x := by simp [coTo, coL]
theorem coTo_succ {x : Ex} {k : Nat} {l : List Int} (hk : k < x.order.length) (hl : x.order[k]?.getD [] = l) : coTo x (k + 1) = coTo x k ++ aheadL l := by
  rw [List.getElem?_eq_getElem hk] at hl
  have hl' : x.order[k] = l := hl
  unfold coTo
  rw [List.take_add_one, List.getElem?_eq_getElem hk, List.flatMap_append, hl']
  simp
theorem coTo_le (x : Ex) (k : Nat) : (coTo x k).length ≤ (coL x).length := by
  have : coL x = coTo x k ++ (x.order.drop k).flatMap aheadL := by
    unfold coL coTo
    rw [← List.flatMap_append, List.take_append_drop]
  rw [this, List.length_append]; omega
theorem co_room {x : Ex} {k i j : Nat} {l : List Int} (hk : k < x.order.length) (hl : x.order[k]?.getD [] = l) (hi : i < l.length) (hj : j < (l.drop (i + 1)).length) (f : Int → Int × Int) :
    (coTo x k ++ aheadTo l i ++ ((l.drop (i + 1)).take j).map f).length < (coL x).length := by
  have h1 := coTo_le x (k + 1)
  rw [coTo_succ hk hl, List.length_append, ← ahead_all l] at h1
  have h2 := aheadTo_mono l (show i + 1 ≤ l.length by omega)
  rw [aheadTo_succ, List.length_append, List.length_map] at h2
  rw [List.length_append, List.length_append, List.length_map, List.length_take]
  omega
theorem take_next {m : List Int} {j : Nat} {b : Int} (hj : j < m.length) (hb : m[j]?.getD 0 = b) (f : Int → Int × Int) : (m.take (j + 1)).map f = (m.take j).map f ++ [f b] := by
  rw [List.getElem?_eq_getElem hj] at hb
  have hb' : m[j] = b := hb
  rw [List.take_add_one, List.getElem?_eq_getElem hj, List.map_append, hb']
  simp

/-- The rows' capacities. -/
def CapsOk (w : World) (A : Option Addr) (m : Nat) : Prop := ∀ b off, A = some ⟨b, off, none⟩ → ∀ j, j < m → ∀ B n c, w.cell? ⟨b, off + j, none⟩ = some (.slice B n c) → n ≤ c

set_option maxRecDepth 100000 in
set_option maxHeartbeats 2000000 in
theorem co_stops (n : Nat) (hn : 1 ≤ n) (Bx : Nat) (Ao : Option Addr) (co : Nat) (x : Ex) (w : World) (hBx : Bx < w.heap.size) (hc : w.cell? ⟨Bx, 2, none⟩ = some (.slice Ao x.order.length co)) (hI : Q.Rows w Ao x.order) (hcap : CapsOk w Ao x.order.length) :
    SeqStopsK Fence.wide n Tryz.prog 59 #[.pointer (some ⟨Bx, 0, none⟩)] encP (Kp w.heap.size) (fun ys => ys = coL x) (fun _ => True) (coL x).length w := by
  intro lp J Jx W hW _ _ hY h0
  have hro : Fence.wide.round = none := rfl
  have hreach := hI.1
  have hcW : W.cell? ⟨Bx, 2, none⟩ = some (.slice Ao x.order.length co) := (hW.cell (p := ⟨Bx, 2, none⟩) hBx).trans hc
  have HI := Lib.hid hI
  have HCAP := Lib.hid hcap
  have HW := Lib.hid hW
  clear hI hcap hW
  refine callsIn_of_wp Tryz.func59 rfl trivial ?_ rfl
  simp only [Tryz.ntmps59, List.size_toArray, List.length_cons, List.length_nil, Nat.reduceAdd, Nat.reduceSub, Array.replicate_succ, Array.replicate_zero, List.push_toArray, List.append_toArray, List.nil_append, List.cons_append]
  gi_wp2
  refine wpIn_wide.2 ?_
  refine wp_scope_straight ?_
  refine (wpIn_wide (n := n)).1 ?_
  refine wpIn_seq_k fun K hK => ?_
  refine wpIn_label ?_
  refine hK _ _ ?_
  gi_wp2
  gi_loopw [12] (fun i wr => ∃ k : Nat, k ≤ x.order.length ∧ i = .int .i64 k ∧ J (coTo x k) wr ∧ Below w.heap.size W wr)
    (fun i _ => x.order.length - (intOf i).toNat)
  case atStart => exact ⟨0, Nat.zero_le _, rfl, h0, Below.refl _ _⟩
  case round =>
    obtain ⟨k, hk, rfl, hJs, hnx⟩ := hrel
    by_cases hlt : k < x.order.length
    case neg =>
      obtain rfl : k = x.order.length := by omega
      gi_wp2
      unfold Exit.noGoto
      dsimp only
      go_end0
      exact ⟨⟨_, rfl⟩, .inl ⟨_, by rw [coTo_all], hJs⟩⟩
    obtain ⟨b, off, rfl, hcs⟩ := HI.out.2 (by omega)
    obtain ⟨B, c, hrow, hints⟩ := hcs k hlt
    have hlc := HCAP.out b off rfl k hlt _ _ _ hrow
    obtain ⟨l, hl⟩ : ∃ l, x.order[k]?.getD [] = l := ⟨_, rfl⟩
    rw [hl] at hrow hints hlc
    have hrowr : wr.cell? ⟨b, off + k, none⟩ = some (.slice B l.length c) := (⟨wr, HW.out.trans hnx⟩ : Fut w).cell hrow
    have HL := Lib.hid hl
    have HINT := Lib.hid hints
    have hl44 := hints.1
    clear hl hcs hrow hints
    have HNX := Lib.hid hnx
    clear hnx
    gi_wp2
    gi_loopw [18] (fun i wr => ∃ i' : Nat, i' ≤ l.length ∧ i = .int .i64 i' ∧ J (coTo x k ++ aheadTo l i') wr ∧ Below w.heap.size W wr)
      (fun i _ => l.length - (intOf i).toNat)
    case atStart => exact ⟨0, Nat.zero_le _, rfl, by simpa [aheadTo] using hJs, HNX.out⟩
    case round =>
      obtain ⟨i, hi, rfl, hJ2, hnx2⟩ := hrel
      by_cases hil : i < l.length
      case neg =>
        obtain rfl : i = l.length := by omega
        gi_wp2
        go_roundw
        case rel => exact ⟨k + 1, by omega, by simp, by rw [coTo_succ hlt HL.out, ← ahead_all]; exact hJ2, hnx2⟩
        case measure => simp [intOf]; omega
      obtain ⟨b2, off2, rfl, hcs2⟩ := HINT.out.2 (by omega)
      obtain ⟨a, ha⟩ : ∃ a, l[i]?.getD 0 = a := ⟨_, rfl⟩
      have hcx : wr.cell? ⟨b2, off2 + i, none⟩ = some (.int .i64 a) := by rw [← ha]; exact (⟨wr, HW.out.trans hnx2⟩ : Fut w).cell (hcs2 i hil)
      have HA := Lib.hid ha
      have HCS := Lib.hid hcs2
      have HJ2 := Lib.hid hJ2
      have HNX2 := Lib.hid hnx2
      clear ha hcs2 hJ2 hnx2 hrowr
      have hi1 : i + 1 ≤ l.length := hil
      have ht1 : ((i : Int) + 1).toNat = i + 1 := by omega
      by_cases hci : c = i + 1
      · subst hci
        have hl1 : l.length = i + 1 := by omega
        have hl0 : l.length - (i + 1) = 0 := by omega
        gi_wp2
        gi_loopw [28] (fun v wr => ∃ j : Nat, j ≤ l.length - (i + 1) ∧ v = .int .i64 j ∧ J (coTo x k ++ aheadTo l i ++ ((l.drop (i + 1)).take j).map fun b => (a, b)) wr ∧ Below w.heap.size W wr)
          (fun v _ => l.length - (i + 1) - (intOf v).toNat)
        case atStart => exact ⟨0, Nat.zero_le _, rfl, by simpa using HJ2.out, HNX2.out⟩
        case round =>
          obtain ⟨j, hj, rfl, hJ3, hnx3⟩ := hrel
          by_cases hjl : j < l.length - (i + 1)
          · omega
          ·
            obtain rfl : j = l.length - (i + 1) := by omega
            gi_wp2
            go_roundw
            case rel => exact ⟨i + 1, by omega, by simp, by rw [aheadTo_succ, HA.out, ← List.append_assoc]; rw [List.take_of_length_le (by simp)] at hJ3; exact hJ3, hnx3⟩
            case measure => simp [intOf]; omega
      · have hci2 : ¬ i + 1 = c := fun e => hci e.symm
        gi_wp2
        gi_loopw [28] (fun v wr => ∃ j : Nat, j ≤ l.length - (i + 1) ∧ v = .int .i64 j ∧ J (coTo x k ++ aheadTo l i ++ ((l.drop (i + 1)).take j).map fun b => (a, b)) wr ∧ Below w.heap.size W wr)
          (fun v _ => l.length - (i + 1) - (intOf v).toNat)
        case atStart => exact ⟨0, Nat.zero_le _, rfl, by simpa using HJ2.out, HNX2.out⟩
        case round =>
          obtain ⟨j, hj, rfl, hJ3, hnx3⟩ := hrel
          by_cases hjl : j < l.length - (i + 1)
          · obtain ⟨b, hb⟩ : ∃ b, l[i + 1 + j]?.getD 0 = b := ⟨_, rfl⟩
            have hcb : wr.cell? ⟨b2, off2 + (i + 1) + j, none⟩ = some (.int .i64 b) := by
              rw [← hb, Nat.add_assoc]; exact (⟨wr, HW.out.trans hnx3⟩ : Fut w).cell (HCS.out (i + 1 + j) (by omega))
            have hroom := co_room hlt HL.out hil (j := j) (by rw [List.length_drop]; omega) (fun b => (a, b))
            have hts := Lib.hid (take_next (m := l.drop (i + 1)) (j := j) (b := b) (by rw [List.length_drop]; omega) (by rw [List.getElem?_drop]; exact hb) (fun b => (a, b)))
            obtain ⟨fn, tmps, assign, body, hy, hR⟩ := hY _ (a, b) wr hJ3 hroom
            dsimp only [encP] at hy
            clear hroom hb
            gi_wp2
            refine hR.mono ?_
            rintro e W3 (⟨rfl, hJ4, hk4⟩ | ⟨rfl, hJx4⟩)
            · gi_wp2
              go_roundw
              case rel => exact ⟨j + 1, by omega, by simp, by rw [hts.out, ← List.append_assoc]; exact hJ4, hnx3.trans hk4.1⟩
              case measure => simp [intOf]; omega
            · gi_wp2
              unfold Exit.noGoto
              dsimp only
              go_end0
              exact ⟨⟨_, rfl⟩, .inr ⟨_, trivial, hJx4⟩⟩
          ·
            obtain rfl : j = l.length - (i + 1) := by omega
            gi_wp2
            go_roundw
            case rel => exact ⟨i + 1, by omega, by simp, by rw [aheadTo_succ, HA.out, ← List.append_assoc]; rw [List.take_of_length_le (by simp)] at hJ3; exact hJ3, hnx3⟩
            case measure => simp [intOf]; omega
end Go.Proofs.YtacnbdnmkmpldaaGreat
