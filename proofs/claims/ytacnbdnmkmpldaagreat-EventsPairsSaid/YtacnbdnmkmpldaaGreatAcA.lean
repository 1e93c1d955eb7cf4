/- events.Acyclic's search: the closure that calls itself. -/
import Derived.Test.YtacnbdnmkmpldaaGreatSortP
import Derived.Test.YtacnbdnmkmpldaaGreatPure
import Derived.Maps.OwnOps
import Derived.Maps.OwnRows
namespace Go.Proofs.YtacnbdnmkmpldaaGreat
open Go Go.Proofs Go.RowKit Go.Maps Go.ChangeShapes Go.WideElems Q
set_option linter.unusedSimpArgs false
set_option linter.unusedVariables false

theorem runL_append {g : (Int → Int) → Int → Bool × (Int → Int)} : ∀ (xs : List Int) (S : Int → Int) (ys : List Int), (runL g S xs).1 = true → runL g S (xs ++ ys) = runL g (runL g S xs).2 ys
  | [], _, _, _ => rfl
  | b :: xs, S, ys, h => by
    simp only [runL, List.cons_append] at h ⊢
    split at h
    · rename_i hb
      rw [if_pos hb, if_pos hb]
      exact runL_append xs _ ys h
    · cases h
theorem runL_yes {g : (Int → Int) → Int → Bool × (Int → Int)} {S : Int → Int} {l : List Int} {k : Nat} {b : Int} (hk : k < l.length) (hb : l[k]?.getD 0 = b) (h : (runL g S (l.take k)).1 = true) (hg : (g (runL g S (l.take k)).2 b).1 = true) :
    runL g S (l.take (k + 1)) = (true, (g (runL g S (l.take k)).2 b).2) := by
  rw [List.take_add_one, List.getElem?_eq_getElem hk]
  rw [List.getElem?_eq_getElem hk] at hb
  rw [show (some l[k]).toList = [b] from by rw [← hb]; rfl, runL_append _ _ _ h]
  simp only [runL]
  rw [if_pos hg]
theorem runL_no {g : (Int → Int) → Int → Bool × (Int → Int)} {S : Int → Int} {l : List Int} {k : Nat} {b : Int} (hk : k < l.length) (hb : l[k]?.getD 0 = b) (h : (runL g S (l.take k)).1 = true) (hg : (g (runL g S (l.take k)).2 b).1 = false) :
    runL g S l = (false, (g (runL g S (l.take k)).2 b).2) := by
  have e : l = l.take k ++ b :: l.drop (k + 1) := by
    rw [← hb, List.getElem?_eq_getElem hk]
    show l = l.take k ++ l[k] :: l.drop (k + 1)
    rw [← List.drop_eq_getElem_cons hk, List.take_append_drop]
  conv => lhs; rw [e]
  rw [runL_append _ _ _ h]
  simp only [runL]
  rw [if_neg (by simp [hg])]

/-- Block Ms is a map of colours. -/
def StateIs (w : World) (Ms n : Nat) (S : Int → Int) : Prop :=
  ∃ D : DataW Unit, w.ownsMap Tryz.prog 3 (plainElem Tryz.prog 3) Ms n D ∧ ∀ a, D.atKey (.int .i64 a) (.lit (.int .i64 0)) = .lit (.int .i64 (S a))
/-- What a map of slices holds. -/
def GroupsAre (G : DataW Unit) (T : Int → List Int) : Prop := ∀ (a : Int) (v : Value) (zs : List Int) (w : World) (base : Nat) (e : TypeId), w.ownsInts base e .i64 v zs → G.atKey (.int .i64 a) .nil = rowDatum .i64 v zs → zs = T a

theorem lits_inj {q : IntKind} {xs ys : List Int} (h : lits (H := Unit) q xs = lits q ys) : xs = ys := by
  induction xs generalizing ys with
  | nil => cases ys with
    | nil => rfl
    | cons => cases h
  | cons x xs ih => cases ys with
    | nil => cases h
    | cons y ys =>
      injection h with h1 h2
      injection h1 with h1; injection h1 with _ h1
      rw [h1, ih h2]
theorem GroupsAre.made : GroupsAre (.map []) fun _ => [] := fun a v zs w base e ho h => by
  rcases ho.datum (H := Unit) with ⟨_, rfl⟩ | h2
  · rfl
  · rw [h2] at h; cases h
theorem GroupsAre.put {G : DataW Unit} {T : Int → List Int} (hG : GroupsAre G T) (hm : IsMap G) {a x : Int} {v' : Value} {w1 : World} {base1 : Nat} {e1 : TypeId} (ho : w1.ownsInts base1 e1 .i64 v' (T a ++ [x])) :
    GroupsAre (G.put (.int .i64 a) (rowDatum .i64 v' (T a ++ [x]))) fun b => if b = a then T a ++ [x] else T b := fun b v zs w base e hz h => by
  by_cases hba : b = a
  · subst hba
    rw [atKey_put_same hm (k := .int .i64 b) trivial, ho.datum_pos (by simp)] at h
    show zs = if b = b then _ else _
    rw [if_pos rfl]
    rcases hz.datum (H := Unit) with ⟨h2, _⟩ | h2
    · rw [h2] at h; cases h
    · rw [h2] at h
      injection h with h
      exact (lits_inj h).symm
  · rw [atKey_put_other (by intro e; cases e; exact hba rfl)] at h
    show zs = if b = a then _ else _
    rw [if_neg hba]
    exact hG b v zs w base e hz h

/-- A map of slices, where a block that is no row of it is turned. -/
theorem groups_kept {w w' : World} {k : TypeId} {base : Nat} {e : TypeId} {b n : Nat} {G : DataW Unit} {row : Option Nat} (h : w.ownsGroups Tryz.prog k base e .i64 b n G) (hg : w.grownBy w' row) (hr : ∀ j, row = some j → j ≠ b ∧ ∃ o : Obj, w.heap[j]? = some o ∧ o.isCells = false) :
    w'.ownsGroups Tryz.prog k base e .i64 b n G := by
  obtain ⟨es, clock, hb, F, hs, rfl, hbb, hlen, hap⟩ := h
  have hbl : b < w.heap.size := (Array.getElem?_eq_some_iff.1 hb).1
  have keep : ∀ v zs, w.ownsInts base e .i64 v zs → w'.ownsInts base e .i64 v zs := fun v zs hv => hv.kept hg (by
    cases ho : v.ownBlock with
    | none => exact .inl rfl
    | some j =>
      refine .inr fun e2 => ?_
      obtain ⟨_, o, hj, hc⟩ := hr j e2.symm
      rcases hv.1.2 with ⟨rfl, _⟩ | ⟨g, cap, cur, rfl, _, hgb, _⟩
      · simp [Value.ownBlock] at ho
      · obtain rfl : g = j := by simpa [Value.ownBlock] using ho
        rw [hgb] at hj; cases hj; cases hc)
  have keepR : ∀ v z, rowElem (H := Unit) w base e .i64 v = some z → rowElem (H := Unit) w' base e .i64 v = some z := fun v z hz => by
    obtain ⟨zs, ho, rfl⟩ := rowElem_inv hz
    exact rowElem_mk (keep v zs ho)
  obtain ⟨F1, hmap, _⟩ := F.stay (R' := rowElem (H := Unit) w' base e .i64) (fun x _ z hz => keepR _ z hz)
  refine ⟨es, clock, (hg.block b hbl (fun e2 => (hr b e2.symm).1 rfl)).trans hb, F1, hs, ?_, hbb, fun x hx zs hz => ?_, hap⟩
  · rw [hmap]
  · obtain ⟨y, hy⟩ := F.reads x hx
    obtain ⟨z, hz0, _⟩ := rd_val hy
    obtain ⟨zs0, ho, rfl⟩ := rowElem_inv hz0
    rw [hz.unique (keep _ _ ho)]
    exact hlen x hx zs0 ho

theorem zeroI (w : World) : (zeroValue 3).run Tryz.prog w = .ok (.int .i64 0) w := by kernel_rfl
theorem zeroIs (w : World) : (zeroValue 23).run Tryz.prog w = .ok (.slice none 0 0) w := by kernel_rfl

/-- What the search finds in memory besides the colours: its boxes, and where arrows lead. -/
structure Env (Bs Bt Bc Ms Mt : Nat) (T : Int → List Int) (W : World) : Prop where
  bs : Boxed W Bs 105 (.map (some Ms))
  bt : Boxed W Bt 113 (.map (some Mt))
  bc : Boxed W Bc 114 (.func (.func 94) #[] #[.pointer (some ⟨Bs, 0, none⟩), .pointer (some ⟨Bt, 0, none⟩), .pointer (some ⟨Bc, 0, none⟩)])
  grp : ∃ (base m : Nat) (G : DataW Unit), W.ownsGroups Tryz.prog 3 base 3 .i64 Mt m G ∧ m ≤ 1000000 ∧ GroupsAre G T
  ne : Mt ≠ Ms
theorem Env.kept {Bs Bt Bc Ms Mt : Nat} {T : Int → List Int} {W W' : World} (h : Env Bs Bt Bc Ms Mt T W) {n : Nat} {S : Int → Int} (hs : StateIs W Ms n S) (hg : W.grownBy W' (some Ms)) : Env Bs Bt Bc Ms Mt T W' := by
  obtain ⟨D, ⟨es, clock, hm, _⟩, _⟩ := hs
  have ne : ∀ (B : Nat) (t : TypeId) (v : Value), Boxed W B t v → some B ≠ some Ms := fun B t v hB e => by
    injection e with e; subst e
    rw [show W.heap[B]? = _ from hB] at hm; cases hm
  obtain ⟨base, k, G, hG, hk, hT⟩ := h.grp
  exact ⟨h.bs.kept hg (ne _ _ _ h.bs), h.bt.kept hg (ne _ _ _ h.bt), h.bc.kept hg (ne _ _ _ h.bc),
    ⟨base, k, G, groups_kept hG hg (fun j e => by injection e with e; subst e; exact ⟨h.ne.symm, _, hm, rfl⟩), hk, hT⟩, h.ne⟩

theorem StateIs.put {w2 : World} {Ms n : Nat} {S : Int → Int} {D : DataW Unit} {a v : Int} (hm : IsMap D) (hD : ∀ a, D.atKey (.int .i64 a) (.lit (.int .i64 0)) = .lit (.int .i64 (S a)))
    (hown : w2.ownsMap Tryz.prog 3 (plainElem Tryz.prog 3) Ms n (D.put (.int .i64 a) (.lit (.int .i64 v)))) : StateIs w2 Ms n (upd S a v) :=
  ⟨_, hown, fun b => by
    unfold upd
    by_cases hba : b = a
    · subst hba; rw [if_pos rfl, atKey_put_same hm (k := .int .i64 b) trivial]
    · rw [if_neg hba, atKey_put_other (by intro e; cases e; exact hba rfl)]; exact hD b⟩
end Go.Proofs.YtacnbdnmkmpldaaGreat
