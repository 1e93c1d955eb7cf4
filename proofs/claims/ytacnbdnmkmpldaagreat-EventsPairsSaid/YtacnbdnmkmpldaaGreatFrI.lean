/- events.Fr's iterator. -/
import Derived.Test.YtacnbdnmkmpldaaGreatItQ
import Derived.Test.YtacnbdnmkmpldaaGreatEvS
import Derived.Test.YtacnbdnmkmpldaaGreatEvC
import Derived.Scope
namespace Go.Proofs.YtacnbdnmkmpldaaGreat
open Go Go.Proofs Go.RowKit Go.Sort Q
set_option linter.unusedSimpArgs false
set_option linter.unusedVariables false
attribute [local go_sem] Oper.semAt_some

/-- A row of pairs that is none of the collector's stays. -/
theorem Kq.prs {p0 : Nat} {A B : World} {T : TypeId} {Ad : Option Addr} {l : List (Int × Int)} (h : Kq p0 A B) (hn : ∀ k, ¬ rowAt A p0 k) (hbox : A.heap[p0]? = some (.cells #[.slice none 0 0] T (0, 0))) (hP : Prs A Ad l) : Prs B Ad l := by
  refine ⟨hP.1, fun hp => ?_⟩
  obtain ⟨b, off, rfl, hcs⟩ := hP.2 hp
  refine ⟨b, off, rfl, fun j hj => ?_⟩
  have key : ∀ q n, A.cell? ⟨b, q, none⟩ = some (.int .i64 n) → B.cell? ⟨b, q, none⟩ = some (.int .i64 n) := by
    intro q n hq
    cases ho : A.heap[b]? with
    | none => simp [World.cell?, ho] at hq
    | some o =>
      cases hoc : o.isCells with
      | false => cases o <;> simp_all [World.cell?, Obj.isCells]
      | true =>
        have hne : b ≠ p0 := by
          rintro rfl
          rw [hbox] at ho; injection ho with ho; subst ho
          rw [cell_of_row A b q _ _ _ hbox] at hq
          rcases q with _ | q <;> simp at hq
        exact (World.cell?_of_block (a := ⟨b, q, none⟩) ((h.keep b o ho hoc hne (hn b)).trans ho.symm)).trans hq
  obtain ⟨h1, h2⟩ := hcs j hj
  exact ⟨key _ _ h1, key _ _ h2⟩

def frTest (r c : Int × Int) : Bool := c.1 == r.1 && c.2 != r.2
def rowF (co : List (Int × Int)) (r : Int × Int) : List (Int × Int) := (co.filter (frTest r)).map fun c => (r.2, c.2)
theorem frL_rows (co rf : List (Int × Int)) : frL co rf = rf.flatMap (rowF co) := rfl
def frTo (co rf : List (Int × Int)) (k : Nat) : List (Int × Int) := (rf.take k).flatMap (rowF co)
theorem frTo_all (co rf : List (Int × Int)) : frTo co rf rf.length = frL co rf := by unfold frTo; rw [List.take_length]; rfl
theorem frTo_succ {co rf : List (Int × Int)} {k : Nat} {r : Int × Int} (hk : k < rf.length) (hr : rf[k]?.getD (0, 0) = r) : frTo co rf (k + 1) = frTo co rf k ++ rowF co r := by
  rw [List.getElem?_eq_getElem hk] at hr
  have hr' : rf[k] = r := hr
  unfold frTo
  rw [List.take_add_one, List.getElem?_eq_getElem hk, List.flatMap_append, hr']
  simp
theorem frTo_le (co rf : List (Int × Int)) (k : Nat) : (frTo co rf k).length ≤ (frL co rf).length := by
  have : frL co rf = frTo co rf k ++ (rf.drop k).flatMap (rowF co) := by
    rw [frL_rows]; unfold frTo
    rw [← List.flatMap_append, List.take_append_drop]
  rw [this, List.length_append]; omega
theorem rowF_yes {co : List (Int × Int)} {r c : Int × Int} {j : Nat} (hj : j < co.length) (hc : co[j]?.getD (0, 0) = c) (h : frTest r c = true) : rowF (co.take (j + 1)) r = rowF (co.take j) r ++ [(r.2, c.2)] := by
  rw [List.getElem?_eq_getElem hj] at hc
  have hc' : co[j] = c := hc
  unfold rowF
  rw [List.take_add_one, List.getElem?_eq_getElem hj, List.filter_append, List.map_append, hc']
  simp [h]
theorem rowF_no {co : List (Int × Int)} {r c : Int × Int} {j : Nat} (hj : j < co.length) (hc : co[j]?.getD (0, 0) = c) (h : frTest r c = false) : rowF (co.take (j + 1)) r = rowF (co.take j) r := by
  rw [List.getElem?_eq_getElem hj] at hc
  have hc' : co[j] = c := hc
  unfold rowF
  rw [List.take_add_one, List.getElem?_eq_getElem hj, List.filter_append, List.map_append, hc']
  simp [h]
theorem rowF_le (co : List (Int × Int)) (r : Int × Int) (j : Nat) : (rowF (co.take j) r).length ≤ (rowF co r).length := by
  have : rowF co r = rowF (co.take j) r ++ rowF (co.drop j) r := by
    unfold rowF
    rw [← List.map_append, ← List.filter_append, List.take_append_drop]
  rw [this, List.length_append]; omega
theorem fr_room {co rf : List (Int × Int)} {r c : Int × Int} {k j : Nat} (hk : k < rf.length) (hr : rf[k]?.getD (0, 0) = r) (hj : j < co.length) (hc : co[j]?.getD (0, 0) = c) (h : frTest r c = true) :
    (frTo co rf k ++ rowF (co.take j) r).length < (frL co rf).length := by
  have h1 := frTo_le co rf (k + 1)
  rw [frTo_succ hk hr, List.length_append] at h1
  have h2 := rowF_le co r (j + 1)
  rw [rowF_yes hj hc h, List.length_append] at h2
  simp at h2 ⊢
  omega

set_option maxRecDepth 100000 in
set_option maxHeartbeats 2000000 in
theorem fr_stops (n : Nat) (hn : 1 ≤ n) (Bx Bc : Nat) (x : Ex) (hok : ExOk x) (Ae Af Ao Ac : Option Addr) (ce cf co cc : Nat) (L : List (Int × Int)) (w : World) (hBx : Bx < w.heap.size) (hBc : Bc < w.heap.size)
    (hx0 : w.cell? ⟨Bx, 0, none⟩ = some (.slice Ae x.evs.length ce)) (hx1 : w.cell? ⟨Bx, 1, none⟩ = some (.slice Af x.src.length cf)) (hx2 : w.cell? ⟨Bx, 2, none⟩ = some (.slice Ao x.order.length co)) (hcc : w.cell? ⟨Bc, 0, none⟩ = some (.slice Ac L.length cc))
    (he : Evs w Ae x.evs) (hf : Ints w Af x.src) (ho : Q.Rows w Ao x.order) (hL : Prs w Ac L) :
    SeqStopsK Fence.wide n Tryz.prog 60 #[.pointer (some ⟨Bx, 0, none⟩), .pointer (some ⟨Bc, 0, none⟩)] encP (Kq w.heap.size) (fun ys => ys = frL L (rfV x)) (fun _ => True) (frL L (rfV x)).length (w.alloc (.cells #[.slice none 0 0] 29)) := by
  intro lp J Jx W hW0 habJ _ hY h0
  have hro : Fence.wide.round = none := rfl
  have hfn : Fence.wide.fn 23 := trivial
  have hbox : W.heap[w.heap.size]? = some (.cells #[.slice none 0 0] 29 (0, 0)) := (hW0.block _ (by simp)).trans (World.alloc_heap_new w _)
  have hW : Below w.heap.size w W := ((Below.refl _ w).alloc (Nat.le_refl _) _).trans (hW0.mono (by simp))
  have hp0 : w.heap.size < W.heap.size := (Array.getElem?_eq_some_iff.1 hbox).1
  have k0 : W.cell? ⟨Bx, 0, none⟩ = _ := (⟨W, hW⟩ : Fut w).cell hx0
  have k1 : W.cell? ⟨Bx, 1, none⟩ = _ := (⟨W, hW⟩ : Fut w).cell hx1
  have k2 : W.cell? ⟨Bx, 2, none⟩ = _ := (⟨W, hW⟩ : Fut w).cell hx2
  have HRF := Lib.hid (rf_any x hok Ae Af Ao ce cf co W (he.below hW) (hf.below hW) (ho.below hW))
  have HCC := Lib.hid hcc
  have HL := Lib.hid hL
  have hL0 := hL.1
  clear he hf ho hx0 hx1 hx2 hcc hL hW0
  refine callsIn_of_wp Tryz.func60 rfl trivial ?_ rfl
  simp only [Tryz.ntmps60, List.size_toArray, List.length_cons, List.length_nil, Nat.reduceAdd, Nat.reduceSub, Array.replicate_succ, Array.replicate_zero, List.push_toArray, List.append_toArray, List.nil_append, List.cons_append]
  gi_wp2_with (gi_at_call 23; refine (callsIn_wide.2 HRF.out).mono ?_; rintro e W1 ⟨A, c, rfl, hP, hb⟩)
  have hno : ∀ k, ¬ rowAt W1 w.heap.size k := fun k hr => by
    obtain ⟨v, t, fr, h1, h2⟩ := hr
    rw [hb.block _ hp0, hbox] at h1
    injection h1 with h1; injection h1 with h1 _ _
    obtain rfl : Value.slice none 0 0 = v := by simpa using h1
    cases h2
  have hbox1 : W1.heap[w.heap.size]? = some (.cells #[.slice none 0 0] 29 (0, 0)) := (hb.block _ hp0).trans hbox
  have hp1 : w.heap.size < W1.heap.size := Nat.lt_of_lt_of_le hp0 hb.size
  have hW1 : Below w.heap.size w W1 := hW.trans (hb.mono (Nat.le_of_lt hp0))
  have hJ1 : J [] W1 := habJ [] W W1 none h0 (below_grown hb) (fun r e => by cases e)
  have hJal : ∀ pre X o, J pre X → J pre (X.alloc o) := fun pre X o h => habJ pre X (X.alloc o) none h (World.grownBy_alloc X o none) (fun r e => by cases e)
  have HNO := Lib.hid hno
  have HP := Lib.hid hP
  have HJAL := Lib.hid hJal
  have HBOX := Lib.hid hbox1
  have hR0 := hP.1
  generalize hrf : rfV x = rf at HP hR0 hY ⊢
  have HRFE := Lib.hid hrf
  clear hno hbox1 hJal habJ k0 k1 k2 hbox h0 HRF hok hb hP hrf
  gi_wp2
  gi_loopw [11] (fun i wr => ∃ k : Nat, k ≤ rf.length ∧ i = .int .i64 k ∧ J (frTo L rf k) wr ∧ Kq w.heap.size W1 wr)
    (fun i _ => rf.length - (intOf i).toNat)
  case atStart => exact ⟨0, Nat.zero_le _, rfl, hJ1, Kq.refl hp1⟩
  case round =>
    obtain ⟨k, hk, rfl, hJs, hkq⟩ := hrel
    by_cases hlt : k < rf.length
    case neg =>
      obtain rfl : k = rf.length := by omega
      gi_wp2
      go_end0
      exact ⟨⟨_, rfl⟩, .inl ⟨_, by rw [frTo_all, HRFE.out], hJs⟩⟩
    have hPr := hkq.prs HNO.out HBOX.out HP.out
    obtain ⟨br, ofr, rfl, hcs⟩ := hPr.2 (by omega)
    obtain ⟨hc0, hc1⟩ := hcs k hlt
    obtain ⟨r, hr⟩ : ∃ r, rf[k]?.getD (0, 0) = r := ⟨_, rfl⟩
    rw [hr] at hc0 hc1
    obtain ⟨r0, r1⟩ := r
    dsimp only at hc0 hc1
    have hcb : wr.cell? ⟨Bc, 0, none⟩ = _ := (⟨wr, hW1.trans hkq.below⟩ : Fut w).cell HCC.out
    have hps : w.heap.size < wr.heap.size := Nat.lt_of_lt_of_le hp1 hkq.below.size
    have hKb : Kq w.heap.size W1 (wr.alloc (.cells #[.int .i64 r0, .int .i64 r1] 38)) := hkq.t (Kq.grown (World.grownBy_alloc _ _ _) (KeepsWalks.alloc _ _) hps)
    have hnb : ¬ rowAt (wr.alloc (.cells #[.int .i64 r0, .int .i64 r1] 38)) w.heap.size wr.heap.size := fun h => by
      have h2 := h.of (A := wr) (Below.heap_alloc wr _ _ hps)
      rcases hkq.rows _ h2 with h3 | h3
      · exact HNO.out _ h3
      · omega
    have hJb := HJAL.out _ _ (.cells #[.int .i64 r0, .int .i64 r1] 38) hJs
    have bR := Boxed2.new wr 38 (.int .i64 r0) (.int .i64 r1)
    have HR := Lib.hid hr
    clear hr hcs hPr
    have hcb1 : (wr.alloc (.cells #[.int .i64 r0, .int .i64 r1] 38)).cell? ⟨Bc, 0, none⟩ = _ := (⟨_, hW1.trans hKb.below⟩ : Fut w).cell HCC.out
    gi_wp2
    obtain ⟨Wb, hWb⟩ : ∃ Wb, wr.alloc (.cells #[.int .i64 r0, .int .i64 r1] 38) = Wb := ⟨_, rfl⟩
    rw [hWb] at hKb hnb hJb bR hcb1 ⊢
    obtain ⟨Br, hBr⟩ : ∃ Br, wr.heap.size = Br := ⟨_, rfl⟩
    rw [hBr] at hnb bR hps ⊢
    have hpb : w.heap.size < Wb.heap.size := Nat.lt_trans hps bR.lt
    have hne : Br ≠ w.heap.size := by omega
    clear hWb hBr hcb hc0 hc1 hJs hkq hcb1
    gi_loopw [17] (fun i wr => ∃ j : Nat, j ≤ L.length ∧ i = .int .i64 j ∧ J (frTo L rf k ++ rowF (L.take j) (r0, r1)) wr ∧ Kq w.heap.size Wb wr)
      (fun i _ => L.length - (intOf i).toNat)
    case atStart => exact ⟨0, Nat.zero_le _, rfl, by simpa [rowF] using hJb, Kq.refl hpb⟩
    case round =>
      obtain ⟨j, hj, rfl, hJ2, hkq2⟩ := hrel
      by_cases hjl : j < L.length
      case neg =>
        obtain rfl : j = L.length := by omega
        gi_wp2
        go_roundw
        case rel => exact ⟨k + 1, by omega, by simp, by rw [frTo_succ hlt HR.out]; rw [List.take_length] at hJ2; exact hJ2, hKb.t hkq2⟩
        case measure => simp [intOf]; omega
      have hLr := HL.out.below (hW1.trans (hKb.t hkq2).below)
      obtain ⟨bl, ofl, rfl, hcl⟩ := hLr.2 (by omega)
      obtain ⟨hc0, hc1⟩ := hcl j hjl
      obtain ⟨q, hq⟩ : ∃ q, L[j]?.getD (0, 0) = q := ⟨_, rfl⟩
      rw [hq] at hc0 hc1
      obtain ⟨q0, q1⟩ := q
      dsimp only at hc0 hc1
      have HQ := Lib.hid hq
      clear hq hcl hLr
      have hpw : w.heap.size < wr.heap.size := Nat.lt_of_lt_of_le hpb hkq2.below.size
      have bRr := hkq2.box2 bR hne hnb
      have bC := Boxed2.new wr 38 (.int .i64 q0) (.int .i64 q1)
      have hal : Below wr.heap.size wr (wr.alloc (.cells #[.int .i64 q0, .int .i64 q1] 38)) := (Below.refl _ _).alloc (Nat.le_refl _) _
      have z0 := (⟨_, hal⟩ : Fut wr).cell bRr.cell0
      have z1 := (⟨_, hal⟩ : Fut wr).cell bRr.cell1
      dsimp only at z0 z1
      have y0 := bC.cell0
      have y1 := bC.cell1
      have hK6 : Kq w.heap.size Wb (wr.alloc (.cells #[.int .i64 q0, .int .i64 q1] 38)) := hkq2.t (Kq.grown (World.grownBy_alloc _ _ _) (KeepsWalks.alloc _ _) hpw)
      have hJ6 := HJAL.out _ _ (.cells #[.int .i64 q0, .int .i64 q1] 38) hJ2
      have htst : frTest (r0, r1) (q0, q1) = (q0 == r0 && q1 != r1) := rfl
      clear bRr bC hal
      by_cases t1 : q0 = r0
      case neg =>
        have u1 : (q0 == r0) = false := beq_eq_false_iff_ne.2 t1
        have HT := Lib.hid (show frTest (r0, r1) (q0, q1) = false from htst.trans (by simp only [u1, Bool.false_and]))
        clear htst t1
        gi_wp2
        first | (refine ⟨fun _ hf => (by cases hf), ?_⟩; gi_wp2) | skip
        go_roundw
        case rel => exact ⟨j + 1, by omega, by simp, by rw [rowF_no hjl HQ.out HT.out]; exact hJ6, hK6⟩
        case measure => simp [intOf]; omega
      have u1 : (q0 == r0) = true := beq_iff_eq.2 t1
      by_cases t2 : q1 = r1
      case pos =>
        have u2 : (q1 == r1) = true := beq_iff_eq.2 t2
        have u3 : (q1 != r1) = false := by rw [bne, u2]; rfl
        have HT := Lib.hid (show frTest (r0, r1) (q0, q1) = false from htst.trans (by simp only [u1, u3, Bool.and_false]))
        clear htst t1 t2
        gi_wp2
        first | (refine ⟨fun _ hf => (by cases hf), ?_⟩; gi_wp2) | skip
        go_roundw
        case rel => exact ⟨j + 1, by omega, by simp, by rw [rowF_no hjl HQ.out HT.out]; exact hJ6, hK6⟩
        case measure => simp [intOf]; omega
      have u2 : (q1 == r1) = false := beq_eq_false_iff_ne.2 t2
      have u3 : (q1 != r1) = true := by rw [bne, u2]; rfl
      have HT := Lib.hid (show frTest (r0, r1) (q0, q1) = true from htst.trans (by simp only [u1, u3, Bool.and_true]))
      clear htst t1 t2
      obtain ⟨fn, tmps, assign, body, hy, hR⟩ := hY _ (r1, q1) _ hJ6 (fr_room hlt HR.out hjl HQ.out HT.out)
      dsimp only [encP] at hy
      gi_wp2
      refine hR.mono ?_
      rintro e W3 (⟨rfl, hJ3, hk3⟩ | ⟨rfl, hJx3⟩)
      · gi_wp2
        go_roundw
        case rel => exact ⟨j + 1, by omega, by simp, by rw [rowF_yes hjl HQ.out HT.out, ← List.append_assoc]; exact hJ3, hK6.t hk3⟩
        case measure => simp [intOf]; omega
      · gi_wp2
        refine bodyPost_ret (results_none rfl _ _ _) rfl ?_
        exact ⟨⟨_, rfl⟩, .inr ⟨_, trivial, hJx3⟩⟩
end Go.Proofs.YtacnbdnmkmpldaaGreat
