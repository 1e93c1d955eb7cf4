/- Collecting what an iterator gives, where the iterator keeps rows of its own: pairs. -/
import Derived.Test.YtacnbdnmkmpldaaGreatItP
import Derived.Maps.OwnIn
namespace Go.Proofs.YtacnbdnmkmpldaaGreat
open Go Go.Proofs Go.RowKit Go.Sort Q
set_option linter.unusedSimpArgs false
set_option linter.unusedVariables false
attribute [local go_sem] Oper.semAt_some

/-- The row that the slice variable in block p0 lies in. -/
def rowAt (A : World) (p0 k : Nat) : Prop := ∃ v t fr, A.heap[p0]? = some (.cells #[v] t fr) ∧ v.ownBlock = some k
theorem rowAt.of {A B : World} {p0 k : Nat} (h : rowAt B p0 k) (hp : B.heap[p0]? = A.heap[p0]?) : rowAt A p0 k := by
  obtain ⟨v, t, fr, h1, h2⟩ := h
  exact ⟨v, t, fr, hp ▸ h1, h2⟩
theorem owned_lt {W : World} {base : Nat} {e : TypeId} {size n m : Nat} {g cap : Nat} {xs : List Value} (h : W.ownsRow base e size (.slice (some ⟨g, 0, none⟩) m cap) n xs) : g < W.heap.size := by
  rcases h.2 with ⟨h, _⟩ | ⟨g', cp, cur, e', _, hb, _⟩
  · cases h
  injection e' with e1 _ _; injection e1 with e1; injection e1 with e1; subst e1
  exact (Array.getElem?_eq_some_iff.1 hb).1
/-- What a round must keep: but for the variable in p0 and its row, all rows. -/
structure Kq (p0 : Nat) (A B : World) : Prop where
  below : Below p0 A B
  walks : KeepsWalks A B
  keep : ∀ k o, A.heap[k]? = some o → o.isCells = true → k ≠ p0 → ¬ rowAt A p0 k → B.heap[k]? = some o
  rows : ∀ k, rowAt B p0 k → rowAt A p0 k ∨ (A.heap.size ≤ k ∧ k < B.heap.size)
theorem Kq.t {p0 : Nat} {A B C : World} (h : Kq p0 A B) (k : Kq p0 B C) : Kq p0 A C :=
  ⟨h.below.trans k.below, h.walks.trans k.walks,
    fun j o hj hc hne hr => k.keep j o (h.keep j o hj hc hne hr) hc hne (fun hr2 => (h.rows j hr2).elim hr (fun e => by have := (Array.getElem?_eq_some_iff.1 hj).1; omega)),
    fun j hr => by
      have hs1 := h.below.size
      have hs2 := k.below.size
      rcases k.rows j hr with h1 | h1
      · rcases h.rows j h1 with h2 | h2
        · exact .inl h2
        · exact .inr ⟨h2.1, by omega⟩
      · exact .inr ⟨by omega, h1.2⟩⟩
theorem Kq.grown {p0 : Nat} {A B : World} (hg : A.grownBy B none) (hw : KeepsWalks A B) (hp : p0 < A.heap.size) : Kq p0 A B :=
  ⟨(Below.refl _ _).grown hg (Nat.le_of_lt hp) (fun j e => by cases e), hw,
    fun k o hk _ _ _ => (hg.block k (Array.getElem?_eq_some_iff.1 hk).1 (fun e => by cases e)).trans hk,
    fun k hr => .inl (hr.of (hg.block p0 hp (fun e => by cases e)))⟩
theorem Kq.refl {p0 : Nat} {A : World} (hp : p0 < A.heap.size) : Kq p0 A A :=
  ⟨Below.refl _ _, KeepsWalks.refl _, fun _ _ h _ _ _ => h, fun _ h => .inl h⟩
theorem Kq.b {p0 : Nat} {w : World} (h : p0 < w.heap.size) (W : World) (l : Nat) (o o' : Obj) (hl : w.heap.size ≤ l) (hL : W.heap[l]? = some o) (h1 : o.isCells = false) (h2 : o.isWalk = false) : Kq p0 W (W.putObj l o') := by
  have hll := (Array.getElem?_eq_some_iff.1 hL).1
  refine ⟨belowK_b (w := w) (Nat.le_of_lt h) W l o o' hl hL h1 h2, KeepsWalks.putObj _ hL h2, fun k u hk hc _ _ => ?_, fun k hr => .inl (hr.of ((grownBy_putObj' W l o').block p0 (by omega) (fun e => by injection e; omega)))⟩
  refine ((grownBy_putObj' W l o').block k (Array.getElem?_eq_some_iff.1 hk).1 (fun e => ?_)).trans hk
  injection e with e; subst e
  rw [hL] at hk; injection hk with hk; subst hk
  rw [h1] at hc; cases hc
theorem Kq.body {W w1 : World} {p0 : Nat} {T : TypeId} {v v' : Value} {o : Obj} (hv : Boxed W p0 T v) (hv2 : Boxed (w1.setCell ⟨p0, 0, none⟩ v') p0 T v') (hb : Below p0 W (w1.setCell ⟨p0, 0, none⟩ v')) (hw : KeepsWalks W (w1.setCell ⟨p0, 0, none⟩ v'))
    (hg : (W.alloc o).grownBy w1 v.ownBlock) (hat : v'.ownBlock = v.ownBlock ∨ v'.ownBlock = some (W.alloc o).heap.size) (hlt : ∀ k, v'.ownBlock = some k → k < w1.heap.size) : Kq p0 W (w1.setCell ⟨p0, 0, none⟩ v') := by
  refine ⟨hb, hw, fun k u hk _ hne hr => ?_, fun k hr => ?_⟩
  · have hlt := (Array.getElem?_eq_some_iff.1 hk).1
    have h1 : (W.alloc o).heap[k]? = some u := (Below.heap_alloc W o k hlt).trans hk
    have h2 : w1.heap[k]? = some u := (hg.block k (by simp; omega) (fun e => hr ⟨v, T, (0, 0), hv, e.symm⟩)).trans h1
    show (w1.heap.modify p0 _)[k]? = some u
    obtain ⟨hk1, hk2⟩ := Array.getElem?_eq_some_iff.1 h2
    rw [Array.getElem?_eq_getElem (by rw [Array.size_modify]; exact hk1), Array.getElem_modify_of_ne (fun e => hne e.symm), hk2]
  · obtain ⟨x, t, fr, h1, h2⟩ := hr
    rw [show (w1.setCell ⟨p0, 0, none⟩ v').heap[p0]? = _ from hv2] at h1
    injection h1 with h1; injection h1 with h1 h3 h4
    obtain rfl : v' = x := by simpa using h1
    rcases hat with h | h
    · exact .inl ⟨v, T, (0, 0), hv, by rw [← h, h2]⟩
    · have h5 := hlt k h2
      rw [h2] at h; injection h with h; simp at h
      refine .inr ⟨by omega, ?_⟩
      show k < (w1.heap.modify p0 _).size
      rw [Array.size_modify]; exact h5

theorem Kq.box2 {p0 : Nat} {A B : World} {t : TypeId} {Br : Nat} {v0 v1 : Value} (h : Kq p0 A B) (hb : Boxed2 A Br t v0 v1) (hne : Br ≠ p0) (hn : ¬ rowAt A p0 Br) : Boxed2 B Br t v0 v1 := h.keep Br _ hb rfl hne hn
theorem below_grown {A B : World} (h : Below A.heap.size A B) : A.grownBy B none := ⟨h.os, h.tape, h.output, h.size, fun k hk _ => h.block k hk⟩

set_option maxRecDepth 100000 in
set_option maxHeartbeats 2000000 in
/-- slices.AppendSeq(nil, seq). -/
theorem appendQ (n : Nat) (hn : 3 ≤ n) (g : Nat) (lb : Array Value) (eg : ∀ args w, (callFunc g args).run Tryz.prog w = .ok (.enter g args) w)
    (S Sp : List (Int × Int) → Prop) (N : Nat) (hN : N ≤ maxLen) (hNb : N * 16 ≤ 140737488355328) (w : World)
    (hseq : SeqStopsK Fence.wide (n - 1) Tryz.prog g lb encP (Kq w.heap.size) S Sp N (w.alloc (.cells #[.slice none 0 0] 29))) :
    CallsIn Fence.wide n Tryz.prog 154 #[.slice none 0 0, .func (.func g) #[] lb] w fun e W' => ∃ v ss, e = .returned v ∧ S ss ∧ W'.ownsRow w.heap.size 38 2 v ss.length (ss.flatMap cellsP) ∧ (v = .slice none 0 0 ↔ ss = []) ∧ Below w.heap.size w W' := by
  have h1 : 1 ≤ n := by omega
  obtain ⟨i0, hi, hz0, hz1, hz2⟩ := info_parts infoP
  refine callsIn_of_wp_marks Tryz.func154 rfl trivial ?_ rfl
  simp only [Tryz.ntmps154, List.size_toArray, List.length_cons, List.length_nil, Nat.reduceAdd, Nat.reduceSub, Array.replicate_succ, Array.replicate_zero, List.push_toArray, List.append_toArray, List.nil_append, List.cons_append]
  gi_wp2
  have bO := Boxed.new w 29 (.slice none 0 0)
  have hB0 : Below w.heap.size w (w.alloc (.cells #[.slice none 0 0] 29)) := (Below.refl _ w).alloc (Nat.le_refl _) _
  refine wpIn_rangeFunc_ownH rfl h1 (gf := g) (lb := lb) rfl trivial eg
    hseq (fun h k => Kq.t h k) (Kq.b (by simp)) (Below.refl _ _) (fun _ => rfl)
    (fun pre W => (∃ v, Boxed W w.heap.size 29 v ∧ W.ownsRow w.heap.size 38 2 v pre.length (pre.flatMap cellsP) ∧ (v = .slice none 0 0 ↔ pre = [])) ∧ Below w.heap.size w W)
    (fun _ _ _ => False)
    (OwnFrom.and (Own.from (holdsRow_own w.heap.size w.heap.size 29 38 2 (fun pre => pre.length) (fun pre => pre.flatMap cellsP) (fun pre v => v = .slice none 0 0 ↔ pre = [])) _) (ownFrom_below (Nat.le_refl _) (by simp)))
    (fun _ _ _ _ _ hs _ _ => hs)
    ⟨⟨_, bO, World.ownsRow_nil _ _ _ _, by simp⟩, hB0⟩
    (fun x a' W => ∃ Bx, w.heap.size < Bx ∧ Boxed2 W Bx 38 (.int .i64 x.1) (.int .i64 x.2) ∧ a' = { tmps := #[.slice none 0 0, .func (.func g) #[] lb, .pointer (some ⟨w.heap.size, 0, none⟩), undef, .slice none 0 0, .pointer (some ⟨Bx, 0, none⟩), .func (.func g) #[] lb, .agg #[.int .i64 x.1, .int .i64 x.2], undef, undef, undef, undef, undef], defers := [] })
    (fun x a' _ X Y row hs hg hr => by obtain ⟨Bx, h1, h2, h3⟩ := hs; exact ⟨Bx, h1, boxed2_own Bx _ _ _ () X Y row h2 hg (fun r e => (hr r e).2), h3⟩)
    ?assign ?body ?done ?stop
  case assign =>
    rintro l pre x W K ⟨⟨v, hv, hrow, hnil⟩, hB⟩ hK
    dsimp only [encP]
    gi_wp2
    exact hK _ _ ((KeepsOthers.alloc _ _).from _) (Kq.grown (World.grownBy_alloc _ _ _) (KeepsWalks.alloc _ _) hv.lt) ⟨⟨v, hv.alloc _, hrow.alloc _, hnil⟩, hB.alloc hB.size _⟩ ⟨W.heap.size, hv.lt, Boxed2.new W _ _ _, rfl⟩
  case body =>
    rintro l pre x a' W hl ⟨r, hr⟩ ⟨⟨v, hv, hrow, hnil⟩, hB⟩ ⟨Bx, hBx, bX, rfl⟩ hlt
    have hc := hv.cell
    have hx0 := bX.cell0
    have hx1 := bX.cell1
    gi_wp2_with (gi_at_builtin; refine wpListIn_append_own_at _ rfl _ _ 29 rfl w.heap.size 38 i0 (.agg #[.int .i64 0, .int .i64 0]) 2 16 Tryz.underlying29 hi hz0 hz1 hz2 rfl (by decide) _ _ _ rfl (hrow.alloc _) ⟨W.heap.size, 0, none⟩ 1 1 (cellsP x) rfl rfl (cells_pair_new _ _ _ _) (one_cellsP x) (by omega) (by omega) (by have := hB.size; simp; omega) ?_; intro v' w1 hown' hgrow _ hat; obtain ⟨g', cap', rfl⟩ := ownsRow_succ hown'; obtain ⟨hv1, hv2, hr2, hk2, hb2⟩ := hv.appended (by decide) hrow hB.size (Nat.le_refl _) hown' hgrow; have hc1 := hv1.cell; have hf1 := hv1.frozen)
    exact ⟨hk2.from _, (Kq.body hv hv2 hb2 hk2.walks hgrow hat (fun k e => by cases e; exact owned_lt hown')), ⟨_, hv2, by simpa using hr2, by simp⟩, hB.trans hb2⟩
  case done =>
    rintro D ys W hD hS ⟨⟨v, hv, hrow, hnil⟩, hB⟩ hK
    have hc := hv.cell
    gi_wp2
    refine ⟨by simp, .inl ⟨_, _, rfl, run_takeDeferred hK, ?_⟩⟩
    exact ⟨_, results_tmp rfl _ _ _, v, ys, rfl, hS, ownsRow_putObj hrow _ hK rfl, hnil, hB.trans (belowK_b (w := w) (Nat.le_refl _) W D _ _ (by simp at hD; omega) hK rfl rfl)⟩
  case stop =>
    rintro D c pre W _ _ h _
    exact h.elim

set_option maxRecDepth 100000 in
set_option maxHeartbeats 2000000 in
/-- slices.Collect(seq). -/
theorem collectQ (n : Nat) (hn : 4 ≤ n) (g : Nat) (lb : Array Value) (eg : ∀ args w, (callFunc g args).run Tryz.prog w = .ok (.enter g args) w)
    (S Sp : List (Int × Int) → Prop) (N : Nat) (hN : N ≤ maxLen) (hNb : N * 16 ≤ 140737488355328) (w : World)
    (hseq : SeqStopsK Fence.wide (n - 1 - 1) Tryz.prog g lb encP (Kq w.heap.size) S Sp N (w.alloc (.cells #[.slice none 0 0] 29))) :
    CallsIn Fence.wide n Tryz.prog 141 #[.func (.func g) #[] lb] w fun e W' => ∃ v ss, e = .returned v ∧ S ss ∧ W'.ownsRow w.heap.size 38 2 v ss.length (ss.flatMap cellsP) ∧ (v = .slice none 0 0 ↔ ss = []) ∧ Below w.heap.size w W' := by
  have h1 : 1 ≤ n := by omega
  have hfn : Fence.wide.fn 154 := trivial
  refine callsIn_of_wp Tryz.func141 rfl trivial ?_ rfl
  simp only [Tryz.ntmps141, List.size_toArray, List.length_cons, List.length_nil, Nat.reduceAdd, Nat.reduceSub, Array.replicate_succ, Array.replicate_zero, List.push_toArray, List.append_toArray, List.nil_append, List.cons_append]
  gi_wp2_with (gi_at_call 154; refine (appendQ (n - 1) (by omega) g lb eg S Sp N hN hNb _ hseq).mono ?_; rintro e w' ⟨v, ss, rfl, hS, hrow, hnil, hb⟩)
  go_ret
  exact ⟨v, ss, rfl, hS, hrow, hnil, hb⟩
end Go.Proofs.YtacnbdnmkmpldaaGreat
