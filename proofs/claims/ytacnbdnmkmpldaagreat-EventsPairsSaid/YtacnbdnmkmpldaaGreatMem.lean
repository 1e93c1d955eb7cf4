/- How executions lie in memory; walks of regions; from the reading of an argument to memory. Whatever the program. -/
import Derived.BigQuiet
import Derived.Below
import Derived.WalkKit
import Derived.Test.YtacnbdnmkmpldaaGreatPure
import Derived.Deep.Slices
import Derived.Deep.Fields
import Derived.ChangeArms
import Derived.SizedLaws
/- Regions that draw their order, whose operations read and whose callees read and lay blocks: one walk in the order of the text serves. -/
section
namespace Go.Proofs.YtacnbdnmkmpldaaGreat.Q
open Go.RowKit

/-- A world that comes of w by draws and new blocks. -/
structure Fut (w : World) where
  val : World
  below : Below w.heap.size w val

instance futNonempty (w : World) : Nonempty (Fut w) := ⟨⟨w, Below.refl _ _⟩⟩

theorem Fut.cell {w : World} (s : Fut w) {a : Addr} {v : Value} (h : w.cell? a = some v) : s.val.cell? a = some v :=
  (s.below.cell (World.block_lt_of_cell? w a h)).trans h

theorem wp_region_fut {P : Program} {id : Nat} {Q : Exit → Act → World → Prop} {a : Act} {w : World} {l : List Oper} (hm : P.follows .mixedOrders = true) (hB : Region.lexB .any l.toArray = true)
    (h : wpQuiet P l.toArray (fun w' => ∃ s : Fut w, w' = s.val) (fun a' => ∀ s : Fut w, Q .normal a' s.val) l a) : (Code.region id l.toArray true).wp P Q a w :=
  wp_region_quiet (C := fun w' => ∃ s : Fut w, w' = s.val) hm hB ⟨⟨_, (Below.refl _ w).drew⟩, rfl⟩
    (by
      have e : (fun a' => ∀ w', (∃ s : Fut w, w' = s.val) → Q .normal a' w') = (fun a' => ∀ s : Fut w, Q .normal a' s.val) := by
        funext a'; exact propext ⟨fun k s => k _ ⟨s, rfl⟩, fun k w' ⟨s, e⟩ => e ▸ k s⟩
      rw [e]; simpa using h)

theorem fut_call {P : Program} {f : FuncId} {args : Array Value} {w : World} {v : Value} (s : Fut w)
    (h : Calls P f args s.val fun e w' => e = .returned v ∧ Below s.val.heap.size s.val w') : Calls P f args s.val fun e w'' => e = .returned v ∧ ∃ s' : Fut w, w'' = s'.val :=
  h.mono fun _ w' ⟨he, hb⟩ => ⟨he, ⟨w', s.below.trans (hb.mono s.below.size)⟩, rfl⟩

theorem ret_bool {a b : Bool} (h : b = a) : Ending.returned (.bool a) = Ending.returned (.bool b) := by rw [h]
theorem ret_int {k : IntKind} {a b : Int} (h : b = a) : Ending.returned (.int k a) = Ending.returned (.int k b) := by rw [h]

/-- A region's operations, by its number. -/
def opsIn : Code → Nat → Option (Array Oper)
  | .region id ops _, k => if id == k then some ops else none
  | .seq a b, k => match opsIn a k with
    | some o => some o
    | none => opsIn b k
  | .cond _ a b, k => match opsIn a k with
    | some o => some o
    | none => opsIn b k
  | .block _ c, k => opsIn c k
  | .loop c, k => opsIn c k
  | .scope c, k => opsIn c k
  | .rangeFunc _ _ a b, k => match opsIn a k with
    | some o => some o
    | none => opsIn b k
  | _, _ => none
def opsOf (f : Func) (k : Nat) : Array Oper := ((f.body.bind fun c => opsIn c k)).getD #[]
theorem lexOf {A B : Array Oper} (h : Region.lexB .any A = true) (e : B = A) : Region.lexB .any B = true := e ▸ h
end Go.Proofs.YtacnbdnmkmpldaaGreat.Q
end

/- How executions lie in memory: rows of numbers, of events, of such rows. -/
section
namespace Go.Proofs.YtacnbdnmkmpldaaGreat.Q
open Go.RowKit

/-- A row of numbers: A, its length being that of l. -/
def Ints (w : World) (A : Option Addr) (l : List Int) : Prop :=
  l.length ≤ 17592186044416 ∧ (0 < l.length → ∃ b off, A = some ⟨b, off, none⟩ ∧ ∀ j, j < l.length → w.cell? ⟨b, off + j, none⟩ = some (.int .i64 (l[j]?.getD 0)))

/-- The same, words. -/
def U32s (w : World) (A : Option Addr) (l : List Int) : Prop :=
  l.length ≤ 17592186044416 ∧ (0 < l.length → ∃ b off, A = some ⟨b, off, none⟩ ∧ ∀ j, j < l.length → w.cell? ⟨b, off + j, none⟩ = some (.int .u32 (l[j]?.getD 0)))
theorem U32s.fut {w : World} {A : Option Addr} {l : List Int} (h : U32s w A l) (s : Fut w) : U32s s.val A l :=
  ⟨h.1, fun hp => by obtain ⟨b, off, hA, hc⟩ := h.2 hp; exact ⟨b, off, hA, fun j hj => s.cell (hc j hj)⟩⟩
theorem U32s.below {w w' : World} {A : Option Addr} {l : List Int} (h : U32s w A l) (hb : Below w.heap.size w w') : U32s w' A l := h.fut ⟨w', hb⟩

/-- An event's cells, from ⟨b, o⟩ on; its three rows beside. -/
structure EvAt (w : World) (b o : Nat) (e : Ev) : Prop where
  c0 : w.cell? ⟨b, o, none⟩ = some (.int .i64 e.hart)
  c1 : w.cell? ⟨b, o + 1, none⟩ = some (.int .i64 e.kind)
  c2 : w.cell? ⟨b, o + 2, none⟩ = some (.int .u32 e.addr)
  c3 : w.cell? ⟨b, o + 3, none⟩ = some (.int .u32 e.value)
  c4 : w.cell? ⟨b, o + 4, none⟩ = some (.int .u32 e.readv)
  c5 : w.cell? ⟨b, o + 5, none⟩ = some (.bool e.aq)
  c6 : w.cell? ⟨b, o + 6, none⟩ = some (.bool e.rl)
  c7 : w.cell? ⟨b, o + 7, none⟩ = some (.int .i64 e.pred)
  c8 : w.cell? ⟨b, o + 8, none⟩ = some (.int .i64 e.succ)
  c9 : w.cell? ⟨b, o + 9, none⟩ = some (.bool e.resv)
  c10 : ∃ A c, w.cell? ⟨b, o + 10, none⟩ = some (.slice A e.addrs.length c) ∧ Ints w A e.addrs
  c11 : ∃ A c, w.cell? ⟨b, o + 11, none⟩ = some (.slice A e.datas.length c) ∧ Ints w A e.datas
  c12 : ∃ A c, w.cell? ⟨b, o + 12, none⟩ = some (.slice A e.ctrls.length c) ∧ Ints w A e.ctrls

/-- An event's cells in every world to come. -/
theorem EvAt.facts {w : World} {b o : Nat} {e : Ev} (h : EvAt w b o e) : ∃ (Aa : Option Addr) (ca : Nat) (Ad : Option Addr) (cd : Nat) (Ac : Option Addr) (cc : Nat),
    (∀ s : Fut w, s.val.cell? ⟨b, o, none⟩ = some (.int .i64 e.hart)) ∧ (∀ s : Fut w, s.val.cell? ⟨b, o + 1, none⟩ = some (.int .i64 e.kind)) ∧
    (∀ s : Fut w, s.val.cell? ⟨b, o + 2, none⟩ = some (.int .u32 e.addr)) ∧ (∀ s : Fut w, s.val.cell? ⟨b, o + 3, none⟩ = some (.int .u32 e.value)) ∧
    (∀ s : Fut w, s.val.cell? ⟨b, o + 4, none⟩ = some (.int .u32 e.readv)) ∧ (∀ s : Fut w, s.val.cell? ⟨b, o + 5, none⟩ = some (.bool e.aq)) ∧
    (∀ s : Fut w, s.val.cell? ⟨b, o + 6, none⟩ = some (.bool e.rl)) ∧ (∀ s : Fut w, s.val.cell? ⟨b, o + 7, none⟩ = some (.int .i64 e.pred)) ∧
    (∀ s : Fut w, s.val.cell? ⟨b, o + 8, none⟩ = some (.int .i64 e.succ)) ∧ (∀ s : Fut w, s.val.cell? ⟨b, o + 9, none⟩ = some (.bool e.resv)) ∧
    (∀ s : Fut w, s.val.cell? ⟨b, o + 10, none⟩ = some (.slice Aa e.addrs.length ca)) ∧ (∀ s : Fut w, s.val.cell? ⟨b, o + 11, none⟩ = some (.slice Ad e.datas.length cd)) ∧
    (∀ s : Fut w, s.val.cell? ⟨b, o + 12, none⟩ = some (.slice Ac e.ctrls.length cc)) ∧ Ints w Aa e.addrs ∧ Ints w Ad e.datas ∧ Ints w Ac e.ctrls := by
  obtain ⟨Aa, ca, g0, i0⟩ := h.c10
  obtain ⟨Ad, cd, g1, i1⟩ := h.c11
  obtain ⟨Ac, cc, g2, i2⟩ := h.c12
  exact ⟨Aa, ca, Ad, cd, Ac, cc, fun s => s.cell h.c0, fun s => s.cell h.c1, fun s => s.cell h.c2, fun s => s.cell h.c3, fun s => s.cell h.c4, fun s => s.cell h.c5, fun s => s.cell h.c6, fun s => s.cell h.c7, fun s => s.cell h.c8, fun s => s.cell h.c9,
    fun s => s.cell g0, fun s => s.cell g1, fun s => s.cell g2, i0, i1, i2⟩

def Evs (w : World) (A : Option Addr) (l : List Ev) : Prop :=
  l.length ≤ 17592186044416 ∧ (0 < l.length → ∃ b off, A = some ⟨b, off, none⟩ ∧ ∀ j, j < l.length → EvAt w b (off + j * 13) (l[j]?.getD zev))

theorem Evs.at {w : World} {b o : Nat} {l : List Ev} (h : Evs w (some ⟨b, o, none⟩) l) (n : Nat) (hn : n < l.length) : EvAt w b (o + n * 13) (l[n]?.getD zev) := by
  obtain ⟨b', o', e, hc⟩ := h.2 (by omega)
  injection e with e; injection e with e1 e2; subst e1 e2
  exact hc n hn

def Rows (w : World) (A : Option Addr) (l : List (List Int)) : Prop :=
  l.length ≤ 17592186044416 ∧ (0 < l.length → ∃ b off, A = some ⟨b, off, none⟩ ∧ ∀ j, j < l.length → ∃ B c, w.cell? ⟨b, off + j, none⟩ = some (.slice B (l[j]?.getD []).length c) ∧ Ints w B (l[j]?.getD []))

theorem Ints.fut {w : World} {A : Option Addr} {l : List Int} (h : Ints w A l) (s : Fut w) : Ints s.val A l :=
  ⟨h.1, fun hp => by obtain ⟨b, off, hA, hc⟩ := h.2 hp; exact ⟨b, off, hA, fun j hj => s.cell (hc j hj)⟩⟩
theorem EvAt.fut {w : World} {b o : Nat} {e : Ev} (h : EvAt w b o e) (s : Fut w) : EvAt s.val b o e where
  c0 := s.cell h.c0
  c1 := s.cell h.c1
  c2 := s.cell h.c2
  c3 := s.cell h.c3
  c4 := s.cell h.c4
  c5 := s.cell h.c5
  c6 := s.cell h.c6
  c7 := s.cell h.c7
  c8 := s.cell h.c8
  c9 := s.cell h.c9
  c10 := by obtain ⟨A, c, h1, h2⟩ := h.c10; exact ⟨A, c, s.cell h1, h2.fut s⟩
  c11 := by obtain ⟨A, c, h1, h2⟩ := h.c11; exact ⟨A, c, s.cell h1, h2.fut s⟩
  c12 := by obtain ⟨A, c, h1, h2⟩ := h.c12; exact ⟨A, c, s.cell h1, h2.fut s⟩
theorem Evs.fut {w : World} {A : Option Addr} {l : List Ev} (h : Evs w A l) (s : Fut w) : Evs s.val A l :=
  ⟨h.1, fun hp => by obtain ⟨b, off, hA, hc⟩ := h.2 hp; exact ⟨b, off, hA, fun j hj => (hc j hj).fut s⟩⟩
theorem Rows.fut {w : World} {A : Option Addr} {l : List (List Int)} (h : Rows w A l) (s : Fut w) : Rows s.val A l :=
  ⟨h.1, fun hp => by
    obtain ⟨b, off, hA, hc⟩ := h.2 hp
    exact ⟨b, off, hA, fun j hj => by obtain ⟨B, c, h1, h2⟩ := hc j hj; exact ⟨B, c, s.cell h1, h2.fut s⟩⟩⟩
theorem Ints.below {w w' : World} {A : Option Addr} {l : List Int} (h : Ints w A l) (hb : Below w.heap.size w w') : Ints w' A l := h.fut ⟨w', hb⟩
theorem Evs.below {w w' : World} {A : Option Addr} {l : List Ev} (h : Evs w A l) (hb : Below w.heap.size w w') : Evs w' A l := h.fut ⟨w', hb⟩
theorem Rows.below {w w' : World} {A : Option Addr} {l : List (List Int)} (h : Rows w A l) (hb : Below w.heap.size w w') : Rows w' A l := h.fut ⟨w', hb⟩

/-- An execution's three slices. -/
structure ExAt (w : World) (Ae Af Ao : Option Addr) (x : Ex) : Prop where
  evs : Evs w Ae x.evs
  src : Ints w Af x.src
  order : Rows w Ao x.order
theorem ExAt.fut {w : World} {Ae Af Ao : Option Addr} {x : Ex} (h : ExAt w Ae Af Ao x) (s : Fut w) : ExAt s.val Ae Af Ao x := ⟨h.evs.fut s, h.src.fut s, h.order.fut s⟩
theorem ExAt.below {w w' : World} {Ae Af Ao : Option Addr} {x : Ex} (h : ExAt w Ae Af Ao x) (hb : Below w.heap.size w w') : ExAt w' Ae Af Ao x := h.fut ⟨w', hb⟩
end Go.Proofs.YtacnbdnmkmpldaaGreat.Q
end

/- Regions walked once though their guards are not decided: what an operation under a guard has told is told under that guard. -/
section
namespace Go.Proofs.YtacnbdnmkmpldaaGreat.Q
open Go.RowKit

/-- v, where b is so; else nothing was done. -/
def sel (b : Bool) (v : Value) : Value := if b = true then v else undef
theorem sel_true (v : Value) : sel true v = v := rfl
theorem sel_false (v : Value) : sel false v = undef := rfl
theorem sel_of {b : Bool} (h : b = true) (v : Value) : sel b v = v := by rw [h]; rfl
theorem and_l {a b : Bool} (h : (a && b) = true) : a = true := by cases a <;> simp_all
attribute [irreducible] sel

section
variable {P : Program} {ops : Array Oper} {C : World → Prop} {Q : Act → Prop} {a : Act} {w : World} {o : Oper} {rest : List Oper}

theorem yielded_bool {g : Nat} {d : Tmp} {c : Bool} {tmps : Array Value} (hd : (ops[g]?).bind (·.dst) = some d) (ht : tmps[d]? = some (.bool c)) : yielded ops tmps g = some c := by
  simp [yielded, hd, ht]
theorem yielded_sel {g : Nat} {d : Tmp} {b c : Bool} {tmps : Array Value} (hd : (ops[g]?).bind (·.dst) = some d) (ht : tmps[d]? = some (sel b (.bool c))) : yielded ops tmps g = if b = true then some c else none := by
  cases b
  · rw [sel_false] at ht; simp [yielded, hd, ht, undef]
  · rw [sel_true] at ht; simp [yielded, hd, ht]

theorem wanted_t {g : Nat} {d : Tmp} {c : Bool} (hg : o.guard = some (g, true)) (hd : (ops[g]?).bind (·.dst) = some d) (ht : a.tmps[d]? = some (.bool c)) : Region.wanted o (yielded ops a.tmps) = c := by
  unfold Region.wanted; rw [hg]; show (yielded ops a.tmps g == some true) = c
  rw [yielded_bool hd ht]; cases c <;> rfl
theorem wanted_f {g : Nat} {d : Tmp} {c : Bool} (hg : o.guard = some (g, false)) (hd : (ops[g]?).bind (·.dst) = some d) (ht : a.tmps[d]? = some (.bool c)) : Region.wanted o (yielded ops a.tmps) = !c := by
  unfold Region.wanted; rw [hg]; show (yielded ops a.tmps g == some false) = !c
  rw [yielded_bool hd ht]; cases c <;> rfl
theorem wanted_ts {g : Nat} {d : Tmp} {b c : Bool} (hg : o.guard = some (g, true)) (hd : (ops[g]?).bind (·.dst) = some d) (ht : a.tmps[d]? = some (sel b (.bool c))) : Region.wanted o (yielded ops a.tmps) = (b && c) := by
  unfold Region.wanted; rw [hg]; show (yielded ops a.tmps g == some true) = (b && c)
  rw [yielded_sel hd ht]; cases b <;> cases c <;> rfl
theorem wanted_fs {g : Nat} {d : Tmp} {b c : Bool} (hg : o.guard = some (g, false)) (hd : (ops[g]?).bind (·.dst) = some d) (ht : a.tmps[d]? = some (sel b (.bool c))) : Region.wanted o (yielded ops a.tmps) = (b && !c) := by
  unfold Region.wanted; rw [hg]; show (yielded ops a.tmps g == some false) = (b && !c)
  rw [yielded_sel hd ht]; cases b <;> cases c <;> rfl

/-- Slot d holds v. -/
def Got (d : Tmp) (v : Value) (a : Act) : Prop := a.eval (.tmp d) = v

/-- An operation whose guard is not decided. -/
theorem wpQuiet_und {b : Bool} {d : Tmp} (hw : Region.wanted o (yielded ops a.tmps) = b) (hd : o.dst = some d) (hlt : d < a.tmps.size)
    (h : ∃ v, (b = true → o.quiet P a C (Got d v)) ∧ wpQuiet P ops C Q rest (a.put (some d) (sel b v))) : wpQuiet P ops C Q (o :: rest) a := by
  obtain ⟨v, h1, h2⟩ := h
  cases b with
  | true =>
    refine BigFrame.wpQuiet_want hw fun K hK => ?_
    obtain ⟨u, hu, he⟩ := h1 rfl
    refine ⟨u, hu, hK _ ?_⟩
    rw [hd] at he ⊢
    have : u = v := by simpa [Got, Act.eval, Act.put, hlt] using he
    subst this
    rwa [sel_true] at h2
  | false =>
    refine BigFrame.wpQuiet_skip hw ?_
    rw [hd]
    rwa [sel_false] at h2

/-- An operation whose guard can't be met. -/
theorem wpQuiet_dead {b : Bool} {d : Tmp} (hw : Region.wanted o (yielded ops a.tmps) = b) (hd : o.dst = some d) (hlt : d < a.tmps.size) (hb : b = false)
    (h : wpQuiet P ops C Q rest (a.put (some d) (sel b (.bool false)))) : wpQuiet P ops C Q (o :: rest) a :=
  wpQuiet_und hw hd hlt ⟨_, fun h' => (by rw [hb] at h'; cases h'), h⟩

/-- a || b, a && b: what is picked. -/
theorem wpQuiet_or {x y : Operand} {c e : Bool} (hop : o.op = .pick x (.const (.bool true)) y) (hg : o.guard = none) (hx : a.eval x = .bool c) (hy : a.eval y = sel (!c) (.bool e))
    (h : wpQuiet P ops C Q rest (a.put o.dst (.bool (c || e)))) : wpQuiet P ops C Q (o :: rest) a := by
  refine BigFrame.wpQuiet_want (by unfold Region.wanted; rw [hg]) fun K hK => ⟨_, fun w _ => ?_, hK _ h⟩
  unfold Oper.quietAt execOp
  rw [hop]
  have ec : ∀ v, a.eval (.const v) = v := fun _ => rfl
  generalize a.eval = ρ at hx hy ec ⊢
  cases c <;> simp [hx, hy, go_sem, sel_true, sel_false, ec]
theorem wpQuiet_and {x y : Operand} {c e : Bool} (hop : o.op = .pick x y (.const (.bool false))) (hg : o.guard = none) (hx : a.eval x = .bool c) (hy : a.eval y = sel c (.bool e))
    (h : wpQuiet P ops C Q rest (a.put o.dst (.bool (c && e)))) : wpQuiet P ops C Q (o :: rest) a := by
  refine BigFrame.wpQuiet_want (by unfold Region.wanted; rw [hg]) fun K hK => ⟨_, fun w _ => ?_, hK _ h⟩
  unfold Oper.quietAt execOp
  rw [hop]
  have ec : ∀ v, a.eval (.const v) = v := fun _ => rfl
  generalize a.eval = ρ at hx hy ec ⊢
  cases c <;> simp [hx, hy, go_sem, sel_true, sel_false, ec]
/-- The same under a guard. -/
theorem wpQuiet_or_und {x y : Operand} {b c e : Bool} {d : Tmp} (hop : o.op = .pick x (.const (.bool true)) y) (hw : Region.wanted o (yielded ops a.tmps) = b) (hd : o.dst = some d) (hlt : d < a.tmps.size) (hx : a.eval x = sel b (.bool c)) (hy : a.eval y = sel (b && !c) (.bool e))
    (h : wpQuiet P ops C Q rest (a.put (some d) (sel b (.bool (c || e))))) : wpQuiet P ops C Q (o :: rest) a := by
  refine wpQuiet_und hw hd hlt ⟨_, fun hb => ⟨.bool (c || e), fun w _ => ?_, ?_⟩, h⟩
  · subst hb
    unfold Oper.quietAt execOp
    rw [hop]
    have ec : ∀ v, a.eval (.const v) = v := fun _ => rfl
    generalize a.eval = ρ at hx hy ec ⊢
    cases c <;> simp [hx, hy, go_sem, sel_true, sel_false, ec]
  · rw [hd]; simp [Got, Act.eval, Act.put, hlt]
theorem wpQuiet_and_und {x y : Operand} {b c e : Bool} {d : Tmp} (hop : o.op = .pick x y (.const (.bool false))) (hw : Region.wanted o (yielded ops a.tmps) = b) (hd : o.dst = some d) (hlt : d < a.tmps.size) (hx : a.eval x = sel b (.bool c)) (hy : a.eval y = sel (b && c) (.bool e))
    (h : wpQuiet P ops C Q rest (a.put (some d) (sel b (.bool (c && e))))) : wpQuiet P ops C Q (o :: rest) a := by
  refine wpQuiet_und hw hd hlt ⟨_, fun hb => ⟨.bool (c && e), fun w _ => ?_, ?_⟩, h⟩
  · subst hb
    unfold Oper.quietAt execOp
    rw [hop]
    have ec : ∀ v, a.eval (.const v) = v := fun _ => rfl
    generalize a.eval = ρ at hx hy ec ⊢
    cases c <;> simp [hx, hy, go_sem, sel_true, sel_false, ec]
  · rw [hd]; simp [Got, Act.eval, Act.put, hlt]
end

theorem eval_tmp {tmps : Array Value} {df : List Deferred} {d : Tmp} {v : Value} (h : tmps[d]? = some v) : Act.eval { tmps := tmps, defers := df } (.tmp d) = v := by
  show tmps.getD d undef = v
  rw [Array.getD_eq_getD_getElem?, h]; rfl

/-- A quiet walk is a walk. -/
theorem wpList_of_quiet {P : Program} {ops : Array Oper} {C : World → Prop} {Q' : Exit → Act → World → Prop} : ∀ (l : List Oper) (a : Act) (w : World), C w →
    wpQuiet P ops C (fun a' => ∀ w', C w' → Q' .normal a' w') l a → wpList P ops Q' l a w
  | [], _, w, hC, h => h w hC
  | o :: l, a, w, hC, h => by
    simp only [wpQuiet] at h
    simp only [wpList]
    split at h
    · rename_i hw
      rw [if_pos hw]
      exact .inl (Oper.wp_of_quiet hC (fun a' w' hC' h' => wpList_of_quiet l a' w' hC' h') h)
    · rename_i hw
      rw [if_neg hw]
      exact wpList_of_quiet l _ w hC h

/-- A region in the order of the text, walked so. -/
theorem wp_region_futp {P : Program} {id : Nat} {Q : Exit → Act → World → Prop} {a : Act} {w : World} {l : List Oper}
    (h : wpQuiet P l.toArray (fun w' => ∃ s : Fut w, w' = s.val) (fun a' => ∀ s : Fut w, Q .normal a' s.val) l a) : (Code.region id l.toArray false).wp P Q a w :=
  wp_region_lit (wpList_of_quiet (C := fun w' => ∃ s : Fut w, w' = s.val) l a w ⟨⟨w, Below.refl _ _⟩, rfl⟩
    (by
      have e : (fun a' => ∀ w', (∃ s : Fut w, w' = s.val) → Q .normal a' w') = (fun a' => ∀ s : Fut w, Q .normal a' s.val) := by
        funext a'; exact propext ⟨fun k s => k _ ⟨s, rfl⟩, fun k w' ⟨s, e⟩ => e ▸ k s⟩
      rw [e]; exact h))

/-- The same in a world to come, of which the facts of the elder one are told. -/
theorem wp_region_futs {P : Program} {id : Nat} {Q : Exit → Act → World → Prop} {a : Act} {W : World} {l : List Oper} (s0 : Fut W) (hm : P.follows .mixedOrders = true) (hB : Region.lexB .any l.toArray = true)
    (h : wpQuiet P l.toArray (fun w' => ∃ s : Fut W, w' = s.val) (fun a' => ∀ s : Fut W, Q .normal a' s.val) l a) : (Code.region id l.toArray true).wp P Q a s0.val :=
  wp_region_quiet (C := fun w' => ∃ s : Fut W, w' = s.val) hm hB ⟨⟨_, s0.below.drew⟩, rfl⟩
    (by
      have e : (fun a' => ∀ w', (∃ s : Fut W, w' = s.val) → Q .normal a' w') = (fun a' => ∀ s : Fut W, Q .normal a' s.val) := by
        funext a'; exact propext ⟨fun k s => k _ ⟨s, rfl⟩, fun k w' ⟨s, e⟩ => e ▸ k s⟩
      rw [e]; simpa using h)
theorem wp_region_futps {P : Program} {id : Nat} {Q : Exit → Act → World → Prop} {a : Act} {W : World} {l : List Oper} (s0 : Fut W)
    (h : wpQuiet P l.toArray (fun w' => ∃ s : Fut W, w' = s.val) (fun a' => ∀ s : Fut W, Q .normal a' s.val) l a) : (Code.region id l.toArray false).wp P Q a s0.val :=
  wp_region_lit (wpList_of_quiet (C := fun w' => ∃ s : Fut W, w' = s.val) l a s0.val ⟨s0, rfl⟩
    (by
      have e : (fun a' => ∀ w', (∃ s : Fut W, w' = s.val) → Q .normal a' w') = (fun a' => ∀ s : Fut W, Q .normal a' s.val) := by
        funext a'; exact propext ⟨fun k s => k _ ⟨s, rfl⟩, fun k w' ⟨s, e⟩ => e ▸ k s⟩
      rw [e]; exact h))
/-- A world is one of its own to come. -/
theorem fut_here (W : World) : ∃ s : Fut W, W = s.val := ⟨⟨W, Below.refl _ _⟩, rfl⟩

/-! A parameter that is boxed: its cells from then on. -/
theorem box1 (w : World) (t : TypeId) (v0 : Value) : ∃ W0 : World, ∃ s0 : Fut W0, w.alloc (.cells #[v0] t) = s0.val ∧ Below w.heap.size w W0 ∧ w.heap.size < W0.heap.size ∧
    (∀ s : Fut W0, s.val.cell? ⟨w.heap.size, 0, none⟩ = some v0) :=
  ⟨_, ⟨_, Below.refl _ _⟩, rfl, (Below.refl _ _).alloc (Nat.le_refl _) _, by simp, fun s => s.cell (by simp)⟩
theorem box3 (w : World) (t : TypeId) (v0 v1 v2 : Value) : ∃ W0 : World, ∃ s0 : Fut W0, w.alloc (.cells #[v0, v1, v2] t) = s0.val ∧ Below w.heap.size w W0 ∧ w.heap.size < W0.heap.size ∧
    (∀ s : Fut W0, s.val.cell? ⟨w.heap.size, 0, none⟩ = some v0) ∧ (∀ s : Fut W0, s.val.cell? ⟨w.heap.size, 1, none⟩ = some v1) ∧ (∀ s : Fut W0, s.val.cell? ⟨w.heap.size, 2, none⟩ = some v2) :=
  ⟨_, ⟨_, Below.refl _ _⟩, rfl, (Below.refl _ _).alloc (Nat.le_refl _) _, by simp, fun s => s.cell (by simp), fun s => s.cell (by simp), fun s => s.cell (by simp)⟩
theorem box13 (w : World) (t : TypeId) (v0 v1 v2 v3 v4 v5 v6 v7 v8 v9 v10 v11 v12 : Value) : ∃ W0 : World, ∃ s0 : Fut W0, w.alloc (.cells #[v0, v1, v2, v3, v4, v5, v6, v7, v8, v9, v10, v11, v12] t) = s0.val ∧ Below w.heap.size w W0 ∧ w.heap.size < W0.heap.size ∧
    (∀ s : Fut W0, s.val.cell? ⟨w.heap.size, 0, none⟩ = some v0) ∧ (∀ s : Fut W0, s.val.cell? ⟨w.heap.size, 1, none⟩ = some v1) ∧ (∀ s : Fut W0, s.val.cell? ⟨w.heap.size, 2, none⟩ = some v2) ∧ (∀ s : Fut W0, s.val.cell? ⟨w.heap.size, 3, none⟩ = some v3) ∧ (∀ s : Fut W0, s.val.cell? ⟨w.heap.size, 4, none⟩ = some v4) ∧ (∀ s : Fut W0, s.val.cell? ⟨w.heap.size, 5, none⟩ = some v5) ∧ (∀ s : Fut W0, s.val.cell? ⟨w.heap.size, 6, none⟩ = some v6) ∧ (∀ s : Fut W0, s.val.cell? ⟨w.heap.size, 7, none⟩ = some v7) ∧ (∀ s : Fut W0, s.val.cell? ⟨w.heap.size, 8, none⟩ = some v8) ∧ (∀ s : Fut W0, s.val.cell? ⟨w.heap.size, 9, none⟩ = some v9) ∧ (∀ s : Fut W0, s.val.cell? ⟨w.heap.size, 10, none⟩ = some v10) ∧ (∀ s : Fut W0, s.val.cell? ⟨w.heap.size, 11, none⟩ = some v11) ∧ (∀ s : Fut W0, s.val.cell? ⟨w.heap.size, 12, none⟩ = some v12) :=
  ⟨_, ⟨_, Below.refl _ _⟩, rfl, (Below.refl _ _).alloc (Nat.le_refl _) _, by simp, fun s => s.cell (by simp), fun s => s.cell (by simp), fun s => s.cell (by simp), fun s => s.cell (by simp), fun s => s.cell (by simp), fun s => s.cell (by simp), fun s => s.cell (by simp), fun s => s.cell (by simp), fun s => s.cell (by simp), fun s => s.cell (by simp), fun s => s.cell (by simp), fun s => s.cell (by simp), fun s => s.cell (by simp)⟩
/-- A world to come of a world to come. -/
def Fut.of {w : World} (s : Fut w) (t : Fut s.val) : Fut w := ⟨t.val, s.below.trans (t.below.mono s.below.size)⟩
theorem fut_callS {P : Program} {f : FuncId} {args : Array Value} {w : World} {v : Value} (s : Fut w)
    (h : Calls P f args s.val fun e w' => e = .returned v ∧ Below s.val.heap.size s.val w') : Calls P f args s.val fun e w'' => e = .returned v ∧ ∃ s' : Fut w, w'' = s'.val := fut_call s h
/-- A world to come of W1 is one of W0, where W1 lies behind a world to come of W0. -/
def Fut.up {W0 W1 : World} (s0 : Fut W0) (h : Below s0.val.heap.size s0.val W1) (s : Fut W1) : Fut W0 := ⟨s.val, s0.below.trans ((h.trans (s.below.mono h.size)).mono s0.below.size)⟩
theorem Fut.up_val {W0 W1 : World} (s0 : Fut W0) (h : Below s0.val.heap.size s0.val W1) (s : Fut W1) : (s0.up h s).val = s.val := rfl
end Go.Proofs.YtacnbdnmkmpldaaGreat.Q
end

/- From the reading of an argument to what lies in memory: rows of numbers, events, executions; whatever the program. -/
section
namespace Go.Proofs.YtacnbdnmkmpldaaGreat.Q
open Go Go.ChangeShapes Go.WideShapes Go.Deep Go.RowKit

section
variable {H : Type} {enc : TypeId × Value → H} {P : Program} {w : World}

/-- What a value reads as is within the reach. -/
def Fits (P : Program) (t : TypeId) (d : DataW H) : Prop := ∀ n ∈ d.weights P t, n ≤ reachBytes

theorem weightsAll_mem {e : TypeId} {n : Nat} : ∀ {l : List (DataW H)} {d : DataW H}, d ∈ l → n ∈ d.weights P e → n ∈ DataW.weightsAll P e l
  | [], _, h, _ => by cases h
  | a :: l, d, h, hn => by
    simp only [DataW.weightsAll, List.mem_append]
    rcases List.mem_cons.1 h with rfl | h
    · exact .inl hn
    · exact .inr (weightsAll_mem h hn)
theorem fits_slice {t e : TypeId} {elems spare : List (DataW H)} (hu : P.underlying t = some (.slice e)) (h : Fits P t (.slice elems spare)) :
    (elems.length + spare.length) * P.bytesOf e ≤ reachBytes ∧ ∀ d ∈ elems, Fits P e d := by
  constructor
  · exact h _ (by simp [DataW.weights, hu])
  · intro d hd n hn
    exact h n (by simp only [DataW.weights, hu, List.mem_cons, List.mem_append]; exact .inr (.inl (weightsAll_mem hd hn)))
theorem fits_part {t : TypeId} {fs : Array Field} {parts : List (DataW H)} (hu : P.underlying t = some (.struct fs)) (h : Fits P t (.agg parts)) {j : Nat} {f : Field} {d : DataW H} (hf : fs[j]? = some f) (hd : parts[j]? = some d) : Fits P f.type d := by
  intro n hn
  refine h n ?_
  simp only [DataW.weights, hu]
  exact DataW.weights_mem_each (j := j) (by simp [hf]) hd n hn

theorem wf_i64 {n : Int} (h : (Lit.int .i64 n).wf = true) : i64R n := by
  have h' : (decide ((-9223372036854775808 : Int) ≤ n) && decide (n ≤ 9223372036854775807)) = true := h
  simpa [i64R] using h'
theorem wf_u32 {n : Int} (h : (Lit.int .u32 n).wf = true) : u32R n := by
  have h' : (decide ((0 : Int) ≤ n) && decide (n ≤ 4294967295)) = true := h
  simpa [u32R] using h'

theorem add_at (a : Addr) (h : a.spot = none) (i : Nat) : a.add i = ⟨a.block, a.off + i, none⟩ := by
  obtain ⟨b, o, s⟩ := a
  dsimp only at h
  subst h
  unfold Addr.add
  split <;> simp_all

theorem getD_map_range {α : Type} (f : Nat → α) (n j : Nat) (d : α) (h : j < n) : ((List.range n).map f)[j]?.getD d = f j := by simp [h]

/-- A row of numbers. -/
theorem lift_ints {t e : TypeId} {fuel : Nat} {v : Value} {x : DataW H × List MemPlace} (ht : P.underlying t = some (.slice e)) (he : P.underlying e = some (.int .i64)) (hc : P.cellsOf e = 1) (hb : P.bytesOf e = 8)
    (h : DataW.trod enc P w 0 (fun _ => true) true fuel t [v] = some x) (hf : Fits P t x.1) : ∃ (A : Option Addr) (c : Nat) (l : List Int), v = .slice A l.length c ∧ Ints w A l ∧ ∀ d ∈ l, i64R d := by
  rcases open_slice1 ht hc h with ⟨hcs, _⟩ | ⟨a, len, cap, m, n, V, D, Pl, hcs, _, hl, hm, hmm, hx, hi⟩
  · injection hcs with hcs; subst hcs
    exact ⟨none, 0, [], rfl, ⟨by simp, fun h => by simp at h⟩, by simp⟩
  · injection hcs with hcs; subst hcs
    subst hx
    have hsz := (fits_slice ht hf).1
    rw [hb] at hsz
    simp only [List.length_map, List.length_range, reachBytes] at hsz
    rw [if_pos rfl] at hmm
    subst hmm
    obtain ⟨Z, hZ⟩ := choose_lt (α := Int) (p := fun i z => V i = .int .i64 z ∧ i64R z) (n := m) (fun i him => by
      obtain ⟨z, hz, _, hw⟩ := DataW.trod_int he (hi i him).2
      injection hz with hz
      exact ⟨z, hz, wf_i64 hw⟩)
    refine ⟨some a, m, (List.range len).map Z, by simp, ⟨by simp; omega, fun hp => ?_⟩, ?_⟩
    · simp only [List.length_map, List.length_range] at hp ⊢
      have h0 := (hi 0 (by omega)).1
      have hs : a.spot = none := by simpa [Addr.add] using World.cell?_spot h0
      refine ⟨a.block, a.off, by rw [← hs], fun j hj => ?_⟩
      have hj' := (hi j (by omega)).1
      rw [add_at a hs, (hZ j (by omega)).1] at hj'
      rw [hj', getD_map_range _ _ _ _ hj]
    · intro d hd
      obtain ⟨i, hi', rfl⟩ := List.mem_map.1 hd
      have := List.mem_range.1 hi'
      exact (hZ i (by omega)).2

/-- A struct, field by field. -/
theorem lift_struct {t : TypeId} {fs : Array Field} {fuel : Nat} {cs : List Value} {x : DataW H × List MemPlace} (ht : P.underlying t = some (.struct fs)) (hone : oneCellFields P fs = true) (hC : P.cellsOf t = fs.size)
    (h : DataW.trod enc P w 0 (fun _ => true) true fuel t cs = some x) (hf : Fits P t x.1) :
    cs.length = fs.size ∧ ∀ (j : Nat) (f : Field), fs[j]? = some f → ∃ (v : Value) (n : Nat) (y : DataW H × List MemPlace), cs[j]? = some v ∧ DataW.trod enc P w 0 (fun _ => true) true n f.type [v] = some y ∧ Fits P f.type y.1 := by
  obtain ⟨ys, n, _, hx, hlen, hyl, hg⟩ := DataW.trod_struct ht h
  subst hx
  refine ⟨hlen.trans hC, fun j f hj => ?_⟩
  obtain ⟨ho, hk⟩ := hone_of hone j f hj
  have hjl : j < fs.size := (Array.getElem?_eq_some_iff.1 hj).1
  have h1 := hg j f hj
  have hjc : j < cs.length := by omega
  rw [ho, hk, List.drop_eq_getElem_cons hjc] at h1
  have hys : ys[j]? = some (ys[j]'(by omega)) := List.getElem?_eq_getElem (by omega)
  refine ⟨cs[j], n, _, List.getElem?_eq_getElem hjc, h1.trans hys, fits_part ht hf hj (by simp [hys])⟩

/-- An event's cells. -/
structure EvCells (w : World) (cs : List Value) (e : Ev) : Prop where
  c0 : cs[0]? = some (.int .i64 e.hart)
  c1 : cs[1]? = some (.int .i64 e.kind)
  c2 : cs[2]? = some (.int .u32 e.addr)
  c3 : cs[3]? = some (.int .u32 e.value)
  c4 : cs[4]? = some (.int .u32 e.readv)
  c5 : cs[5]? = some (.bool e.aq)
  c6 : cs[6]? = some (.bool e.rl)
  c7 : cs[7]? = some (.int .i64 e.pred)
  c8 : cs[8]? = some (.int .i64 e.succ)
  c9 : cs[9]? = some (.bool e.resv)
  c10 : ∃ A c, cs[10]? = some (.slice A e.addrs.length c) ∧ Ints w A e.addrs
  c11 : ∃ A c, cs[11]? = some (.slice A e.datas.length c) ∧ Ints w A e.datas
  c12 : ∃ A c, cs[12]? = some (.slice A e.ctrls.length c) ∧ Ints w A e.ctrls

/-- What the types of an event's parts are. -/
structure EvTypes (P : Program) (te : TypeId) : Prop where
  ex : ∃ (fs : Array Field) (ti tk tu tb ts : TypeId), P.underlying te = some (.struct fs) ∧ oneCellFields P fs = true ∧ P.cellsOf te = 13 ∧ fs.toList.map (·.type) = [ti, tk, tu, tu, tu, tb, tb, ti, ti, tb, ts, ts, ts] ∧
    P.underlying ti = some (.int .i64) ∧ P.underlying tk = some (.int .i64) ∧ P.underlying tu = some (.int .u32) ∧ P.underlying tb = some .bool ∧ P.underlying ts = some (.slice ti) ∧ P.cellsOf ti = 1 ∧ P.bytesOf ti = 8

theorem lift_event {te : TypeId} (T : EvTypes P te) {fuel : Nat} {cs : List Value} {x : DataW H × List MemPlace} (h : DataW.trod enc P w 0 (fun _ => true) true fuel te cs = some x) (hf : Fits P te x.1) :
    ∃ e : Ev, EvCells w cs e ∧ EvOk e ∧ cs.length = 13 := by
  obtain ⟨fs, ti, tk, tu, tb, ts, hu, hone, hC, hts, hti, htk, htu, htb, hs, hci, hbi⟩ := T.ex
  have hsz : fs.size = 13 := by have := congrArg List.length hts; simpa using this
  obtain ⟨hlen, hg⟩ := lift_struct hu hone (by omega) h hf
  have ty : ∀ (j : Nat) (t : TypeId), [ti, tk, tu, tu, tu, tb, tb, ti, ti, tb, ts, ts, ts][j]? = some t → ∃ (v : Value) (n : Nat) (y : DataW H × List MemPlace), cs[j]? = some v ∧ DataW.trod enc P w 0 (fun _ => true) true n t [v] = some y ∧ Fits P t y.1 := by
    intro j t hj
    rw [← hts, List.getElem?_map, Array.getElem?_toList] at hj
    cases hfj : fs[j]? with
    | none => rw [hfj] at hj; cases hj
    | some f =>
      rw [hfj] at hj
      injection hj with hj; subst hj
      exact hg j f hfj
  have num : ∀ (j : Nat) (t : TypeId), [ti, tk, tu, tu, tu, tb, tb, ti, ti, tb, ts, ts, ts][j]? = some t → P.underlying t = some (.int .i64) → ∃ z, cs[j]? = some (.int .i64 z) ∧ i64R z := by
    intro j t hj hu
    obtain ⟨v, n, y, hv, ht, _⟩ := ty j t hj
    obtain ⟨z, hz, _, hw⟩ := DataW.trod_int hu ht
    injection hz with hz; subst hz
    exact ⟨z, hv, wf_i64 hw⟩
  have word : ∀ (j : Nat), [ti, tk, tu, tu, tu, tb, tb, ti, ti, tb, ts, ts, ts][j]? = some tu → ∃ z, cs[j]? = some (.int .u32 z) ∧ u32R z := by
    intro j hj
    obtain ⟨v, n, y, hv, ht, _⟩ := ty j tu hj
    obtain ⟨z, hz, _, hw⟩ := DataW.trod_int htu ht
    injection hz with hz; subst hz
    exact ⟨z, hv, wf_u32 hw⟩
  have flag : ∀ (j : Nat), [ti, tk, tu, tu, tu, tb, tb, ti, ti, tb, ts, ts, ts][j]? = some tb → ∃ z, cs[j]? = some (.bool z) := by
    intro j hj
    obtain ⟨v, n, y, hv, ht, _⟩ := ty j tb hj
    obtain ⟨z, hz, _⟩ := DataW.trod_bool htb ht
    injection hz with hz; subst hz
    exact ⟨z, hv⟩
  have row : ∀ (j : Nat), [ti, tk, tu, tu, tu, tb, tb, ti, ti, tb, ts, ts, ts][j]? = some ts → ∃ (A : Option Addr) (c : Nat) (l : List Int), cs[j]? = some (.slice A l.length c) ∧ Ints w A l ∧ ∀ d ∈ l, i64R d := by
    intro j hj
    obtain ⟨v, n, y, hv, ht, hfy⟩ := ty j ts hj
    obtain ⟨A, c, l, rfl, hI, hw⟩ := lift_ints hs hti hci hbi ht hfy
    exact ⟨A, c, l, hv, hI, hw⟩
  obtain ⟨z0, a0, b0⟩ := num 0 _ rfl hti
  obtain ⟨z1, a1, b1⟩ := num 1 _ rfl htk
  obtain ⟨z2, a2, b2⟩ := word 2 rfl
  obtain ⟨z3, a3, b3⟩ := word 3 rfl
  obtain ⟨z4, a4, b4⟩ := word 4 rfl
  obtain ⟨z5, a5⟩ := flag 5 rfl
  obtain ⟨z6, a6⟩ := flag 6 rfl
  obtain ⟨z7, a7, b7⟩ := num 7 _ rfl hti
  obtain ⟨z8, a8, b8⟩ := num 8 _ rfl hti
  obtain ⟨z9, a9⟩ := flag 9 rfl
  obtain ⟨A10, c10, z10, a10, i10, b10⟩ := row 10 rfl
  obtain ⟨A11, c11, z11, a11, i11, b11⟩ := row 11 rfl
  obtain ⟨A12, c12, z12, a12, i12, b12⟩ := row 12 rfl
  exact ⟨⟨z0, z1, z2, z3, z4, z5, z6, z7, z8, z9, z10, z11, z12⟩, ⟨a0, a1, a2, a3, a4, a5, a6, a7, a8, a9, ⟨_, _, a10, i10⟩, ⟨_, _, a11, i11⟩, ⟨_, _, a12, i12⟩⟩, ⟨b0, b1, b2, b3, b4, b7, b8, b10, b11, b12⟩, by omega⟩

theorem EvCells.at {b o : Nat} {cs : List Value} {e : Ev} (h : EvCells w cs e) (hc : ∀ j, j < 13 → w.cell? ⟨b, o + j, none⟩ = cs[j]?) : EvAt w b o e where
  c0 := (hc 0 (by omega)).trans h.c0
  c1 := (hc 1 (by omega)).trans h.c1
  c2 := (hc 2 (by omega)).trans h.c2
  c3 := (hc 3 (by omega)).trans h.c3
  c4 := (hc 4 (by omega)).trans h.c4
  c5 := (hc 5 (by omega)).trans h.c5
  c6 := (hc 6 (by omega)).trans h.c6
  c7 := (hc 7 (by omega)).trans h.c7
  c8 := (hc 8 (by omega)).trans h.c8
  c9 := (hc 9 (by omega)).trans h.c9
  c10 := by obtain ⟨A, c, h1, h2⟩ := h.c10; exact ⟨A, c, (hc 10 (by omega)).trans h1, h2⟩
  c11 := by obtain ⟨A, c, h1, h2⟩ := h.c11; exact ⟨A, c, (hc 11 (by omega)).trans h1, h2⟩
  c12 := by obtain ⟨A, c, h1, h2⟩ := h.c12; exact ⟨A, c, (hc 12 (by omega)).trans h1, h2⟩

theorem lift_events {t te : TypeId} (ht : P.underlying t = some (.slice te)) (T : EvTypes P te) (hb : 8 ≤ P.bytesOf te) {fuel : Nat} {v : Value} {x : DataW H × List MemPlace}
    (h : DataW.trod enc P w 0 (fun _ => true) true fuel t [v] = some x) (hf : Fits P t x.1) : ∃ (A : Option Addr) (c : Nat) (l : List Ev), v = .slice A l.length c ∧ Evs w A l ∧ ∀ e ∈ l, EvOk e := by
  have hC : P.cellsOf te = 13 := by obtain ⟨_, _, _, _, _, _, _, _, hC, _⟩ := T.ex; exact hC
  rcases open_slice ht h with ⟨hcs, _⟩ | ⟨a, len, cap, m, n, D, Pl, hcs, _, hl, hm, hmm, hx, hi⟩
  · injection hcs with hcs; subst hcs
    exact ⟨none, 0, [], rfl, ⟨by simp, fun h => by simp at h⟩, by simp⟩
  · injection hcs with hcs; subst hcs
    subst hx
    rw [hC] at hi
    obtain ⟨hsz, hfe⟩ := fits_slice ht hf
    simp only [List.length_map, List.length_range, reachBytes] at hsz
    rw [if_pos rfl] at hmm
    subst hmm
    have hlen : (len + (m - len)) * 8 ≤ 140737488351232 := Nat.le_trans (Nat.mul_le_mul_left _ hb) hsz
    have hev : ∀ i, i < len → ∃ cs e, w.cells? 0 (a.add (i * 13)) 13 = some cs ∧ EvCells w cs e ∧ EvOk e := fun i hil => by
      obtain ⟨cs', h1, h2⟩ := hi i (by omega)
      obtain ⟨e, he, hok, _⟩ := lift_event T h2 (hfe _ (List.mem_map.2 ⟨i, List.mem_range.2 hil, rfl⟩))
      exact ⟨cs', e, h1, he, hok⟩
    have hsp : 0 < len → a.spot = none := fun hp => by
      obtain ⟨cs, e, h1, he, _⟩ := hev 0 hp
      have := (World.cells?_some h1).2.2 0 (by omega)
      rw [he.c0] at this
      simpa [Addr.add] using World.cell?_spot this
    haveI : Inhabited Ev := ⟨zev⟩
    obtain ⟨E, hE⟩ := choose_lt (α := Ev) (p := fun i e => EvAt w a.block (a.off + i * 13) e ∧ EvOk e) (n := len) (fun i hil => by
      obtain ⟨cs, e, h1, he, hok⟩ := hev i hil
      have hs := hsp (by omega)
      refine ⟨e, he.at fun j hj => ?_, hok⟩
      rw [← (World.cells?_some h1).2.2 j hj, add_at a hs, add_at _ rfl])
    refine ⟨some a, m, (List.range len).map E, by simp, ⟨by simp; omega, fun hp => ?_⟩, ?_⟩
    · simp only [List.length_map, List.length_range] at hp ⊢
      have hs := hsp hp
      refine ⟨a.block, a.off, by rw [← hs], fun j hj => ?_⟩
      rw [getD_map_range _ _ _ _ hj]
      exact (hE j hj).1
    · intro e he
      obtain ⟨i, hi', rfl⟩ := List.mem_map.1 he
      exact (hE i (List.mem_range.1 hi')).2

theorem lift_rows {t ts ti : TypeId} (ht : P.underlying t = some (.slice ts)) (hs : P.underlying ts = some (.slice ti)) (hti : P.underlying ti = some (.int .i64)) (hcs : P.cellsOf ts = 1) (hbs : 8 ≤ P.bytesOf ts) (hci : P.cellsOf ti = 1) (hbi : P.bytesOf ti = 8) {fuel : Nat} {v : Value} {x : DataW H × List MemPlace}
    (h : DataW.trod enc P w 0 (fun _ => true) true fuel t [v] = some x) (hf : Fits P t x.1) : ∃ (A : Option Addr) (c : Nat) (l : List (List Int)), v = .slice A l.length c ∧ Rows w A l ∧ ∀ r ∈ l, ∀ d ∈ r, i64R d := by
  rcases open_slice1 ht hcs h with ⟨hcs, _⟩ | ⟨a, len, cap, m, n, V, D, Pl, hcs, _, hl, hm, hmm, hx, hi⟩
  · injection hcs with hcs; subst hcs
    exact ⟨none, 0, [], rfl, ⟨by simp, fun h => by simp at h⟩, by simp⟩
  · injection hcs with hcs; subst hcs
    subst hx
    obtain ⟨hsz, hfe⟩ := fits_slice ht hf
    simp only [List.length_map, List.length_range, reachBytes] at hsz
    rw [if_pos rfl] at hmm
    subst hmm
    have hlen : (len + (m - len)) * 8 ≤ 140737488351232 := Nat.le_trans (Nat.mul_le_mul_left _ hbs) hsz
    obtain ⟨Z, hZ⟩ := choose_lt (α := List Int) (p := fun i z => (∃ B c, w.cell? (a.add i) = some (.slice B z.length c) ∧ Ints w B z) ∧ ∀ d ∈ z, i64R d) (n := len) (fun i hil => by
      obtain ⟨h1, h2⟩ := hi i (by omega)
      obtain ⟨B, c, z, hv, hI, hw⟩ := lift_ints hs hti hci hbi h2 (hfe _ (List.mem_map.2 ⟨i, List.mem_range.2 hil, rfl⟩))
      exact ⟨z, ⟨B, c, by rw [h1, hv], hI⟩, hw⟩)
    refine ⟨some a, m, (List.range len).map Z, by simp, ⟨by simp; omega, fun hp => ?_⟩, ?_⟩
    · simp only [List.length_map, List.length_range] at hp ⊢
      obtain ⟨⟨_, _, h0, _⟩, _⟩ := hZ 0 hp
      have hs : a.spot = none := by simpa [Addr.add] using World.cell?_spot h0
      refine ⟨a.block, a.off, by rw [← hs], fun j hj => ?_⟩
      obtain ⟨⟨B, c, h1, h2⟩, _⟩ := hZ j hj
      rw [add_at a hs] at h1
      rw [getD_map_range _ _ _ _ hj]
      exact ⟨B, c, h1, h2⟩
    · intro r hr
      obtain ⟨i, hi', rfl⟩ := List.mem_map.1 hr
      exact (hZ i (List.mem_range.1 hi')).2

/-- What the types of an execution's parts are. -/
structure ExTypes (P : Program) (tx : TypeId) : Prop where
  ex : ∃ (fs : Array Field) (tl te ts tr ti : TypeId), P.underlying tx = some (.struct fs) ∧ oneCellFields P fs = true ∧ P.cellsOf tx = 3 ∧ fs.toList.map (·.type) = [tl, ts, tr] ∧
    P.underlying tl = some (.slice te) ∧ EvTypes P te ∧ 8 ≤ P.bytesOf te ∧ P.underlying ts = some (.slice ti) ∧ P.underlying ti = some (.int .i64) ∧ P.cellsOf ti = 1 ∧ P.bytesOf ti = 8 ∧
    P.underlying tr = some (.slice ts) ∧ P.cellsOf ts = 1 ∧ 8 ≤ P.bytesOf ts

theorem lift_ex {tx : TypeId} (T : ExTypes P tx) {fuel : Nat} {cs : List Value} {x : DataW H × List MemPlace} (h : DataW.trod enc P w 0 (fun _ => true) true fuel tx cs = some x) (hf : Fits P tx x.1) :
    ∃ (y : Ex) (Ae Af Ao : Option Addr) (ce cf co : Nat), cs = [.slice Ae y.evs.length ce, .slice Af y.src.length cf, .slice Ao y.order.length co] ∧ ExAt w Ae Af Ao y ∧ ExOk y := by
  obtain ⟨fs, tl, te, ts, tr, ti, hu, hone, hC, hts, htl, hE, hbe, hts', hti, hci, hbi, htr, hcs, hbs⟩ := T.ex
  have hsz : fs.size = 3 := by have := congrArg List.length hts; simpa using this
  obtain ⟨hlen, hg⟩ := lift_struct hu hone (by omega) h hf
  have ty : ∀ (j : Nat) (t : TypeId), [tl, ts, tr][j]? = some t → ∃ (v : Value) (n : Nat) (y : DataW H × List MemPlace), cs[j]? = some v ∧ DataW.trod enc P w 0 (fun _ => true) true n t [v] = some y ∧ Fits P t y.1 := by
    intro j t hj
    rw [← hts, List.getElem?_map, Array.getElem?_toList] at hj
    cases hfj : fs[j]? with
    | none => rw [hfj] at hj; cases hj
    | some f =>
      rw [hfj] at hj
      injection hj with hj; subst hj
      exact hg j f hfj
  obtain ⟨v0, n0, y0, e0, h0, f0⟩ := ty 0 tl rfl
  obtain ⟨v1, n1, y1, e1, h1, f1⟩ := ty 1 ts rfl
  obtain ⟨v2, n2, y2, e2, h2, f2⟩ := ty 2 tr rfl
  obtain ⟨Ae, ce, le, rfl, he, oe⟩ := lift_events htl hE hbe h0 f0
  obtain ⟨Af, cf, lf, rfl, hff, of⟩ := lift_ints hts' hti hci hbi h1 f1
  obtain ⟨Ao, co, lo, rfl, ho, oo⟩ := lift_rows htr hts' hti hcs hbs hci hbi h2 f2
  refine ⟨⟨le, lf, lo⟩, Ae, Af, Ao, ce, cf, co, ?_, ⟨he, hff, ho⟩, ⟨oe, of, oo⟩⟩
  rw [hsz] at hlen
  match cs, hlen with
  | [c0, c1, c2], _ =>
    simp only [List.getElem?_cons_zero, List.getElem?_cons_succ, Option.some.injEq] at e0 e1 e2
    rw [e0, e1, e2]
end
end Go.Proofs.YtacnbdnmkmpldaaGreat.Q
end

