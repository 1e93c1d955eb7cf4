/- events.pairs, over an iterator that keeps rows of its own. -/
import Derived.Test.YtacnbdnmkmpldaaGreatEvP
import Derived.Test.YtacnbdnmkmpldaaGreatItQ
namespace Go.Proofs.YtacnbdnmkmpldaaGreat
open Go Go.Proofs Go.RowKit Go.Sort Q
set_option linter.unusedSimpArgs false
set_option linter.unusedVariables false
set_option maxRecDepth 100000 in
set_option maxHeartbeats 2000000 in
/-- events.pairs. -/
theorem pairs_anyQ (g : Nat) (lb : Array Value) (eg : ∀ args w, (callFunc g args).run Tryz.prog w = .ok (.enter g args) w) (L : List (Int × Int)) (hL : ∀ p ∈ L, PlaceOk p) (N : Nat) (hN : N ≤ 8796093022208) (hLN : L.length ≤ N)
    (w : World) (hseq : SeqStopsK Fence.wide 7 Tryz.prog g lb encP (Kq w.heap.size) (fun ys => ys = L) (fun _ => True) N (w.alloc (.cells #[.slice none 0 0] 29))) :
    Calls Tryz.prog 56 #[.func (.func g) #[] lb] w fun e w' => ∃ A c, e = .returned (.slice A (sortP L).length c) ∧ Prs w' A (sortP L) ∧ Below w.heap.size w w' := by
  have hcol := callsIn_wide.1 (collectQ 9 (by omega) g lb eg _ _ N (by unfold maxLen; omega) (by omega) w hseq)
  have hln := sortP_len L
  have hsorted : Calls Tryz.prog 95 #[.func (.func g) #[] lb, .func (.func 96) #[] #[]] w fun e w' => ∃ A c, e = .returned (.slice A (sortP L).length c) ∧ Prs w' A (sortP L) ∧ Below w.heap.size w w' := by
    go_enter Tryz.func95, Tryz.ntmps95
    go_wp2_with (go_at_call 141; refine hcol.mono ?_; rintro e W ⟨v, ss, rfl, rfl, hrow, hnil, hb2⟩)
    have HLN := Lib.hid hln
    clear hln
    rcases hrow.2 with ⟨rfl, hz⟩ | ⟨gb, cp, cur, rfl, hbase, hgb, r1, r2, r3, r4⟩
    · have hss : ss = [] := List.eq_nil_of_length_eq_zero hz
      subst hss
      go_wp2_with (go_at_call 142; refine (sort_pairs_none _ _ _ _).mono ?_; rintro e w' ⟨rfl, rfl⟩)
      go_ret
      exact ⟨none, 0, by rw [HLN.out]; rfl, ⟨by rw [HLN.out]; simp, fun h => by rw [HLN.out] at h; simp at h⟩, hb2⟩
    · obtain ⟨M, rfl⟩ := pr_of ss hL
      have hgl : gb < W.heap.size := (Array.getElem?_eq_some_iff.1 hgb).1
      have hml : (M.map (·.1)).length = M.length := by simp
      have hH : HoldsK encPr 2 W gb 0 M.toArray := holdsK_of_block hgb (by rw [← r4, hml])
      have cS := sort_pairs gb cp M W hH hgl (by rw [← hml]; omega)
      rw [← hml] at cS
      have CS := Lib.hid cS
      clear cS
      go_wp2_with (go_at_call 142; refine CS.out.mono ?_; rintro e w' ⟨rfl, nn, os, rfl⟩)
      go_ret
      have hp := sorted_pr M (fun x y => !(ltOf cfP) y x) leP_ltOf
      have ho := ownsRow_sorted_p (w := W) (base := w.heap.size) (n := nn) (os := os) (L := M.mergeSort fun x y => !(ltOf cfP) y x) (m := (M.map (·.1)).length) (by simp) hbase hgb r1 r2 r3
      rw [hp, ← HLN.out] at ho
      refine ⟨_, cp, by rw [HLN.out, hml]; rfl, prs_of_owned (by rw [HLN.out]; omega) ho, hb2.grown (grownBy_sorted_id _) hb2.size (fun j hj => by cases hj; exact hbase)⟩
  have HS := Lib.hid hsorted
  clear hsorted hcol hseq hln
  go_enter Tryz.func56, Tryz.ntmps56
  go_wp2_with (go_at_call 95; refine HS.out.mono ?_; rintro e w' ⟨A, c, rfl, hp, hb⟩)
  go_ret
  exact ⟨A, c, rfl, hp, hb⟩
end Go.Proofs.YtacnbdnmkmpldaaGreat
