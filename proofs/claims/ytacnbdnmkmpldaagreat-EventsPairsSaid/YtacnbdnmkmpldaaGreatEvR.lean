/- events.Rf's iterator: which store each load reads from. -/
import Derived.Test.YtacnbdnmkmpldaaGreatSortP
import Derived.Test.YtacnbdnmkmpldaaGreatEvC
namespace Go.Proofs.YtacnbdnmkmpldaaGreat
open Go Go.Proofs Go.RowKit Go.Sort Q
set_option linter.unusedSimpArgs false
set_option linter.unusedVariables false
attribute [local go_sem] Oper.semAt_some

/-- The pairs of the first k loads. -/
def rfTo (x : Ex) (k : Nat) : List (Int × Int) := ((List.range k).filter fun b => decide (0 ≤ x.src.getD b 0)).map fun b : Nat => (x.src.getD b 0, (b : Int))
theorem rfTo_all (x : Ex) : rfTo x x.src.length = rfL x := rfl
theorem rfTo_yes {x : Ex} {k : Nat} {f : Int} (hf : x.src[k]?.getD 0 = f) (h : 0 ≤ f) : rfTo x (k + 1) = rfTo x k ++ [(f, (k : Int))] := by
  have h' : decide (0 ≤ x.src.getD k 0) = true := by rw [List.getD_eq_getElem?_getD, hf]; exact decide_eq_true h
  simp only [rfTo, List.range_succ, List.filter_append, List.map_append, List.filter_cons, h', List.filter_nil, if_true, List.map_cons, List.map_nil]
  rw [List.getD_eq_getElem?_getD, hf]
theorem rfTo_no {x : Ex} {k : Nat} {f : Int} (hf : x.src[k]?.getD 0 = f) (h : ¬ 0 ≤ f) : rfTo x (k + 1) = rfTo x k := by
  have h' : decide (0 ≤ x.src.getD k 0) = false := by rw [List.getD_eq_getElem?_getD, hf]; exact decide_eq_false h
  simp [rfTo, List.range_succ, List.filter_append, -List.getD_eq_getElem?_getD, h']
theorem rfTo_len (x : Ex) (k : Nat) : (rfTo x k).length ≤ k := by
  have := List.length_filter_le (fun b => decide (0 ≤ x.src.getD b 0)) (List.range k)
  simpa [rfTo] using this

set_option maxRecDepth 100000 in
set_option maxHeartbeats 2000000 in
theorem rf_stops (n : Nat) (hn : 1 ≤ n) (Bx : Nat) (Af : Option Addr) (cf : Nat) (x : Ex) (w : World) (hBx : Bx < w.heap.size) (hc : w.cell? ⟨Bx, 1, none⟩ = some (.slice Af x.src.length cf)) (hI : Ints w Af x.src) :
    SeqStopsK Fence.wide n Tryz.prog 58 #[.pointer (some ⟨Bx, 0, none⟩)] encP (Kp w.heap.size) (fun ys => ys = rfL x) (fun _ => True) x.src.length w := by
  intro lp J Jx W hW _ _ hY h0
  have hro : Fence.wide.round = none := rfl
  have hreach := hI.1
  have hcW : W.cell? ⟨Bx, 1, none⟩ = some (.slice Af x.src.length cf) := (hW.cell (p := ⟨Bx, 1, none⟩) hBx).trans hc
  have HI := Lib.hid hI
  clear hI
  refine callsIn_of_wp Tryz.func58 rfl trivial ?_ rfl
  simp only [Tryz.ntmps58, List.size_toArray, List.length_cons, List.length_nil, Nat.reduceAdd, Nat.reduceSub, Array.replicate_succ, Array.replicate_zero, List.push_toArray, List.append_toArray, List.nil_append, List.cons_append]
  gi_wp2
  gi_loopw [8] (fun i wr => ∃ k : Nat, k ≤ x.src.length ∧ i = .int .i64 k ∧ J (rfTo x k) wr ∧ Below w.heap.size W wr)
    (fun i _ => x.src.length - (intOf i).toNat)
  case atStart => exact ⟨0, Nat.zero_le _, rfl, h0, Below.refl _ _⟩
  case round =>
    obtain ⟨k, hk, rfl, hJs, hnx⟩ := hrel
    by_cases hlt : k < x.src.length
    · have hIr := HI.out.below (hW.trans hnx)
      obtain ⟨b, off, rfl, hcs⟩ := hIr.2 (by omega)
      have hcx := hcs k hlt
      have hlen := rfTo_len x k
      obtain ⟨f, hf⟩ : ∃ f, x.src[k]?.getD 0 = f := ⟨_, rfl⟩
      rw [hf] at hcx
      have HF := Lib.hid hf
      clear hf hcs hIr
      by_cases h0f : 0 ≤ f
      · have hts := Lib.hid (rfTo_yes HF.out h0f)
        obtain ⟨fn, tmps, assign, body, hy, hR⟩ := hY _ (f, (k : Int)) wr hJs (by omega)
        dsimp only [encP] at hy
        gi_wp2
        refine hR.mono ?_
        rintro e W3 (⟨rfl, hJ3, hk3⟩ | ⟨rfl, hJx3⟩)
        · gi_wp2
          go_roundw
          case rel => exact ⟨k + 1, by omega, by simp, by rw [hts.out]; exact hJ3, hnx.trans hk3.1⟩
          case measure => simp [intOf]; omega
        · gi_wp2
          refine bodyPost_ret (results_none rfl _ _ _) rfl ?_
          exact ⟨⟨_, rfl⟩, .inr ⟨_, trivial, hJx3⟩⟩
      · have hts := Lib.hid (rfTo_no HF.out h0f)
        have q0 : decide (0 ≤ f) = false := decide_eq_false h0f
        gi_wp2
        refine ⟨fun _ hf => (by cases hf), ?_⟩
        gi_wp2
        go_roundw
        case rel => exact ⟨k + 1, by omega, by simp, by rw [hts.out]; exact hJs, hnx⟩
        case measure => simp [intOf]; omega
    · obtain rfl : k = x.src.length := by omega
      gi_wp2
      go_end0
      exact ⟨⟨_, rfl⟩, .inl ⟨_, rfl, hJs⟩⟩
end Go.Proofs.YtacnbdnmkmpldaaGreat
