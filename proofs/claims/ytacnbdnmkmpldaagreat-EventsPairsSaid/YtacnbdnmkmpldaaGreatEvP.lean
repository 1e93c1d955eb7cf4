/- events.pairs: pairs by rising places. -/
import Derived.Test.YtacnbdnmkmpldaaGreatSortP
import Derived.Test.YtacnbdnmkmpldaaGreatLib
import Derived.Shelf.SlSortCmp.NoneTotal
namespace Go.Proofs.YtacnbdnmkmpldaaGreat
open Go Go.Proofs Go.RowKit Go.Sort Go.Shelf Go.Lib Q
set_option linter.unusedSimpArgs false
set_option linter.unusedVariables false

theorem isAggP : ∀ w, (isAgg 38).run Tryz.prog w = .ok true w := fun w => by kernel_rfl
theorem sizeOfP : ∀ w, (Go.sizeOf 38).run Tryz.prog w = .ok 2 w := fun w => by kernel_rfl
theorem ltOfP (x y : Pr) : ltOf cfP x y = decide (x.1.1 < y.1.1 ∨ (x.1.1 = y.1.1 ∧ x.1.2 < y.1.2)) := by
  have h := ltP x y
  unfold ltOf
  exact decide_eq_decide.2 h
theorem swoP : SWO (ltOf cfP) where
  irrefl x := by rw [ltOfP]; simp
  trans x y z h1 h2 := by rw [ltOfP] at *; simp only [decide_eq_true_eq] at *; omega
  ntrans x y z h1 h2 := by rw [ltOfP] at *; simp only [decide_eq_false_iff_not] at *; omega
theorem totP (x y : Pr) (h1 : ltOf cfP x y = false) (h2 : ltOf cfP y x = false) : x = y := by
  rw [ltOfP] at *
  simp only [decide_eq_false_iff_not] at *
  exact Subtype.ext (Prod.ext (by omega) (by omega))
theorem cmpLaysP (blk off size : Nat) (w : World) : CmpLays Tryz.prog 96 #[] encPr 2 cfP blk off size w := fun _ _ _ _ x y => cmp_any x y _

set_option maxRecDepth 100000 in
/-- slices.SortFunc at pairs. -/
theorem sort_pairs (g cap : Nat) (L : List Pr) (w : World) (hH : HoldsK encPr 2 w g 0 L.toArray) (hg : g < w.heap.size) (hsz : L.length < 4611686018427387904) :
    Calls Tryz.prog 142 #[.slice (some ⟨g, 0, none⟩) L.length cap, .func (.func 96) #[] #[]] w fun e w' =>
      e = .returned (.tuple #[]) ∧ ∃ n os, w' = grow (putRow id (Sort.ahead w n) g 0 (flatK encPr 2 (L.mergeSort fun x y => !(ltOf cfP) y x).toArray)) os := by
  have eg : ∀ args w, (callFunc 96 args).run Tryz.prog w = .ok (.enter 96 args) w := enters_of Tryz.func96 (by kernel_rfl) rfl
  have h := AnyQ.slices_SortFunc_total Tryz.laysSF 2 isAggP sizeOfP encPr (fun _ => rfl) (fun x v hv => one_cellsP _ v hv) cfP swoP 96 #[] g 0 cap L.toArray w eg (cmpLaysP g 0 L.toArray.size w) hH hg (by simpa using hsz) totP
  rw [List.size_toArray] at h
  exact h
theorem sort_pairs_none (p : Option Addr) (c : Nat) (fv : Value) (w : World) :
    Calls Tryz.prog 142 #[.slice p 0 c, fv] w fun e w' => e = .returned (.tuple #[]) ∧ w' = w :=
  AnyF.slices_SortFunc_none (P := Tryz.prog) (ρ := Tryz.laysSF_ren) { Tryz.laysSF with } p c fv w
theorem leP_ltOf (x y : Pr) : (!ltOf cfP y x) = leP x.1 y.1 := by
  rw [Bool.eq_iff_iff, leP_iff, ltOfP]; simp only [Bool.not_eq_true', decide_eq_false_iff_not]; omega

set_option maxRecDepth 100000 in
set_option maxHeartbeats 2000000 in
/-- events.pairs. -/
theorem pairs_any (g : Nat) (lb : Array Value) (eg : ∀ args w, (callFunc g args).run Tryz.prog w = .ok (.enter g args) w) (L : List (Int × Int)) (hL : ∀ p ∈ L, PlaceOk p) (N : Nat) (hN : N ≤ 8796093022208) (hLN : L.length ≤ N)
    (w : World) (hseq : SeqStopsK Fence.wide 7 Tryz.prog g lb encP (Kp w.heap.size) (fun ys => ys = L) (fun _ => True) N w) :
    Calls Tryz.prog 56 #[.func (.func g) #[] lb] w fun e w' => ∃ A c, e = .returned (.slice A (sortP L).length c) ∧ Prs w' A (sortP L) ∧ Below w.heap.size w w' := by
  have hcol := callsIn_wide.1 (collectP w.heap.size 9 (by omega) g lb eg _ _ N (by unfold maxLen; omega) (by omega) w (Nat.le_refl _) hseq)
  have hln := sortP_len L
  have hsorted : Calls Tryz.prog 95 #[.func (.func g) #[] lb, .func (.func 96) #[] #[]] w fun e w' => ∃ A c, e = .returned (.slice A (sortP L).length c) ∧ Prs w' A (sortP L) ∧ Below w.heap.size w w' := by
    go_enter Tryz.func95, Tryz.ntmps95
    go_wp2_with (go_at_call 141; refine hcol.mono ?_; rintro e W ⟨v, ss, rfl, rfl, hrow, hnil, hb2⟩)
    have HLN := Lib.hid hln
    clear hln
    rcases hrow.2 with ⟨rfl, hz⟩ | ⟨gb, cp, cur, rfl, hbase, hgb, r1, r2, r3, r4⟩
    · have hss : ss = [] := List.eq_nil_of_length_eq_zero hz
      subst hss
      go_wp2_with (go_at_call 142; refine (sort_pairs_none _ _ _ _).mono ?_; rintro e w' ⟨rfl, rfl⟩)
      go_ret
      exact ⟨none, 0, by rw [HLN.out]; rfl, ⟨by rw [HLN.out]; simp, fun h => by rw [HLN.out] at h; simp at h⟩, hb2⟩
    · obtain ⟨M, rfl⟩ := pr_of ss hL
      have hgl : gb < W.heap.size := (Array.getElem?_eq_some_iff.1 hgb).1
      have hml : (M.map (·.1)).length = M.length := by simp
      have hH : HoldsK encPr 2 W gb 0 M.toArray := holdsK_of_block hgb (by rw [← r4, hml])
      have cS := sort_pairs gb cp M W hH hgl (by rw [← hml]; omega)
      rw [← hml] at cS
      have CS := Lib.hid cS
      clear cS
      go_wp2_with (go_at_call 142; refine CS.out.mono ?_; rintro e w' ⟨rfl, nn, os, rfl⟩)
      go_ret
      have hp := sorted_pr M (fun x y => !(ltOf cfP) y x) leP_ltOf
      have ho := ownsRow_sorted_p (w := W) (base := w.heap.size) (n := nn) (os := os) (L := M.mergeSort fun x y => !(ltOf cfP) y x) (m := (M.map (·.1)).length) (by simp) hbase hgb r1 r2 r3
      rw [hp, ← HLN.out] at ho
      refine ⟨_, cp, by rw [HLN.out, hml]; rfl, prs_of_owned (by rw [HLN.out]; omega) ho, hb2.grown (grownBy_sorted_id _) hb2.size (fun j hj => by cases hj; exact hbase)⟩
  have HS := Lib.hid hsorted
  clear hsorted hcol hseq hln
  go_enter Tryz.func56, Tryz.ntmps56
  go_wp2_with (go_at_call 95; refine HS.out.mono ?_; rintro e w' ⟨A, c, rfl, hp, hb⟩)
  go_ret
  exact ⟨A, c, rfl, hp, hb⟩
end Go.Proofs.YtacnbdnmkmpldaaGreat
