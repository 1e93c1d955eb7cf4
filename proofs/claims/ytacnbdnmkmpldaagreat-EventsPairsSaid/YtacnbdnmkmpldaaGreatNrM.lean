/- An execution in rows of one's own: appending to them, storing into them. -/
import Derived.Test.YtacnbdnmkmpldaaGreatMem
import Derived.Deep.AppendLies
import Derived.Laws.IdiomCopy
import Derived.Maps.AppendAt
namespace Go.Proofs.YtacnbdnmkmpldaaGreat.Q
open Go Go.RowKit

/-! append, its source in memory, nil or not. -/
def SrcAt (w : World) (A : Option Addr) (news : List Value) : Prop := 0 < news.length → ∃ b off, A = some ⟨b, off, none⟩ ∧ ∀ j u, news[j]? = some u → w.cell? ⟨b, off + j, none⟩ = some u
theorem SrcAt.fut {w : World} {A : Option Addr} {news : List Value} (h : SrcAt w A news) (s : Fut w) : SrcAt s.val A news :=
  fun hp => by obtain ⟨b, off, hA, hc⟩ := h hp; exact ⟨b, off, hA, fun j u hu => s.cell (hc j u hu)⟩
theorem addr_add (b o j : Nat) : (⟨b, o, none⟩ : Addr).add j = ⟨b, o + j, none⟩ := by unfold Addr.add; split <;> simp_all
section
variable {P : Program} (w : World)
theorem run_append_src (base : Nat) (t ty e : TypeId) (i : TypeInfo) (z : Value) (size bytes : Nat) (ht : P.underlying t = some (.slice e)) (hi : P.info? e = some i) (hz : i.zero = some z)
    (hsize : i.size = size) (hby : i.bytes = bytes) (hzs : z.cells.size = size) (hsz : 0 < size)
    (v : Value) (n : Nat) (xs : List Value) (hown : w.ownsRow base e size v n xs) (A : Option Addr) (m c : Nat) (news : List Value) (hl : news.length = m * size) (hs : SrcAt w A news) (h1 : ∀ u ∈ news, u.oneCell' = true)
    (h63 : n + m ≤ maxLen) (hbytes : (n + m) * bytes ≤ 140737488355328) (hbase : base ≤ w.heap.size) :
    ∃ v' w', (Builtin.append_ #[t, t] ty #[v, .slice A m c]).run P w = .ok v' w' ∧ w'.ownsRow base e size v' (n + m) (xs ++ news) ∧ w.grownBy w' v.ownBlock ∧ (v'.ownBlock = v.ownBlock ∨ v'.ownBlock = some w.heap.size) := by
  rcases Nat.eq_zero_or_pos news.length with h0 | hp
  · have hm : m = 0 := by
      rcases Nat.eq_zero_or_pos m with h | h
      · exact h
      · have := Nat.mul_pos h hsz; omega
    obtain rfl : news = [] := List.eq_nil_of_length_eq_zero h0
    subst hm
    cases A with
    | some ad =>
      obtain ⟨v', w', hr, ho, hg, _, hb⟩ := run_append_own_at (P := P) w base t ty e i z size bytes ht hi hz hsize hby hzs hsz v n xs hown ad 0 c [] (by simp) (by simp) (by simp) h63 hbytes hbase
      exact ⟨v', w', hr, ho, hg, hb⟩
    | none =>
      refine ⟨v, w, ?_, by simpa using hown, World.grownBy.refl w _, .inl rfl⟩
      rcases hown.2 with ⟨rfl, rfl⟩ | ⟨g, cap, cur, rfl, _, _, hnc, _⟩
      · simp [Builtin.append_, run_underlying ht, sizeOf, typeInfo, hi, Builtin.lenOf, Builtin.firstCells]
      · simp [Builtin.append_, run_underlying ht, sizeOf, typeInfo, hi, Builtin.lenOf, Builtin.firstCells, hnc, storeCells]
  · obtain ⟨b, off, rfl, hc⟩ := hs hp
    obtain ⟨v', w', hr, ho, hg, _, hb⟩ := run_append_own_at (P := P) w base t ty e i z size bytes ht hi hz hsize hby hzs hsz v n xs hown ⟨b, off, none⟩ m c news hl (fun j u hu => by rw [addr_add]; exact hc j u hu) h1 h63 hbytes hbase
    exact ⟨v', w', hr, ho, hg, hb⟩
theorem wp_append_src {o : Oper} {a : Act} {K : Act → World → Prop} {Q : Exit → Act → World → Prop} (s x : Operand) (t : TypeId)
    (ho : o.op = .call { callee := .builtin .append, args := #[s, x], argTypes := #[t, t] })
    (base : Nat) (e : TypeId) (i : TypeInfo) (z : Value) (size bytes : Nat) (ht : P.underlying t = some (.slice e)) (hi : P.info? e = some i) (hz : i.zero = some z)
    (hsize : i.size = size) (hby : i.bytes = bytes) (hzs : z.cells.size = size) (hsz : 0 < size)
    (v : Value) (n : Nat) (xs : List Value) (hs : a.eval s = v) (hown : w.ownsRow base e size v n xs)
    (A : Option Addr) (m c : Nat) (news : List Value) (hx : a.eval x = .slice A m c) (hl : news.length = m * size) (hsrc : SrcAt w A news) (h1 : ∀ u ∈ news, u.oneCell' = true)
    (h63 : n + m ≤ maxLen) (hbytes : (n + m) * bytes ≤ 140737488355328) (hbase : base ≤ w.heap.size)
    (h : ∀ v' w', w'.ownsRow base e size v' (n + m) (xs ++ news) → w.grownBy w' v.ownBlock → (v'.ownBlock = v.ownBlock ∨ v'.ownBlock = some w.heap.size) → K (a.put o.dst v') w') : o.wp P a w K Q := by
  obtain ⟨v', w', hr, h2, h3, h4⟩ := run_append_src (P := P) w base t o.type e i z size bytes ht hi hz hsize hby hzs hsz v n xs hown A m c news hl hsrc h1 h63 hbytes hbase
  unfold Oper.wp execOp
  simp only [ho, resolve, invoke, builtin, Sem.run_bind, Sem.run_pure, Result.andThen_ok, List.map_toArray, List.map_cons, List.map_nil, hs, hx, hr]
  exact h v' w' h2 h3 h4
theorem step_append_src {ops : Array Oper} {o : Oper} {a : Act} {K : Act → World → Prop} {Q : Exit → Act → World → Prop} {E : Prop} (hgd : o.guard = none) (s x : Operand) (t : TypeId)
    (ho : o.op = .call { callee := .builtin .append, args := #[s, x], argTypes := #[t, t] })
    (base : Nat) (e : TypeId) (i : TypeInfo) (z : Value) (size bytes : Nat) (ht : P.underlying t = some (.slice e)) (hi : P.info? e = some i) (hz : i.zero = some z)
    (hsize : i.size = size) (hby : i.bytes = bytes) (hzs : z.cells.size = size) (hsz : 0 < size)
    (v : Value) (n : Nat) (xs : List Value) (hs : a.eval s = v) (hown : w.ownsRow base e size v n xs)
    (A : Option Addr) (m c : Nat) (news : List Value) (hx : a.eval x = .slice A m c) (hl : news.length = m * size) (hsrc : SrcAt w A news) (h1 : ∀ u ∈ news, u.oneCell' = true)
    (h63 : n + m ≤ maxLen) (hbytes : (n + m) * bytes ≤ 140737488355328) (hbase : base ≤ w.heap.size)
    (h : ∀ v' w', w'.ownsRow base e size v' (n + m) (xs ++ news) → w.grownBy w' v.ownBlock → (v'.ownBlock = v.ownBlock ∨ v'.ownBlock = some w.heap.size) → K (a.put o.dst v') w') :
    if Region.wanted o (yielded ops a.tmps) = true then Oper.wp P o a w K Q else E := by
  have hw : Region.wanted o (yielded ops a.tmps) = true := by simp [Region.wanted, hgd]
  rw [if_pos hw]
  exact wp_append_src w s x t ho base e i z size bytes ht hi hz hsize hby hzs hsz v n xs hs hown A m c news hx hl hsrc h1 h63 hbytes hbase h
theorem wpList_append_src {ops : Array Oper} {rest : List Oper} {o : Oper} {a : Act} {Q : Exit → Act → World → Prop} (hgd : o.guard = none) (s x : Operand) (t : TypeId)
    (ho : o.op = .call { callee := .builtin .append, args := #[s, x], argTypes := #[t, t] })
    (base : Nat) (e : TypeId) (i : TypeInfo) (z : Value) (size bytes : Nat) (ht : P.underlying t = some (.slice e)) (hi : P.info? e = some i) (hz : i.zero = some z)
    (hsize : i.size = size) (hby : i.bytes = bytes) (hzs : z.cells.size = size) (hsz : 0 < size)
    (v : Value) (n : Nat) (xs : List Value) (hs : a.eval s = v) (hown : w.ownsRow base e size v n xs)
    (A : Option Addr) (m c : Nat) (news : List Value) (hx : a.eval x = .slice A m c) (hl : news.length = m * size) (hsrc : SrcAt w A news) (h1 : ∀ u ∈ news, u.oneCell' = true)
    (h63 : n + m ≤ maxLen) (hbytes : (n + m) * bytes ≤ 140737488355328) (hbase : base ≤ w.heap.size)
    (h : ∀ v' w', w'.ownsRow base e size v' (n + m) (xs ++ news) → w.grownBy w' v.ownBlock → (v'.ownBlock = v.ownBlock ∨ v'.ownBlock = some w.heap.size) → wpList P ops Q rest (a.put o.dst v') w') : wpList P ops Q (o :: rest) a w :=
  wpList_plain hgd fun _ hK => wp_append_src w s x t ho base e i z size bytes ht hi hz hsize hby hzs hsz v n xs hs hown A m c news hx hl hsrc h1 h63 hbytes hbase fun v' w' h2 h3 h4 => hK _ _ (h v' w' h2 h3 h4)
end

theorem src_one (w : World) (v : Value) (t : TypeId) : SrcAt (w.alloc (.cells #[v] t)) (some ⟨w.heap.size, 0, none⟩) [v] :=
  fun _ => ⟨w.heap.size, 0, rfl, fun j u hu => by have := cell_one_new w v t j u hu; rw [addr_add] at this; exact this⟩

/-! Rows of one's own. -/
section
variable {w w' : World} {base size n : Nat} {e : TypeId} {v : Value} {xs : List Value}
theorem own_cell (h : w.ownsRow base e size v n xs) {k : Nat} (hk : k < n * size) {g : Nat} (hg : v.ownBlock = some g) : w.cell? ⟨g, k, none⟩ = xs[k]? := by
  have hk2 : k < xs.length := by rw [h.1]; exact hk
  have := h.cells hg k xs[k] (List.getElem?_eq_getElem hk2)
  rw [addr_add, Nat.zero_add] at this
  rw [this, List.getElem?_eq_getElem hk2]
theorem own_form (h : w.ownsRow base e size v n xs) : (v = .slice none 0 0 ∧ n = 0) ∨ ∃ g c, v = .slice (some ⟨g, 0, none⟩) n c ∧ v.ownBlock = some g ∧ base ≤ g ∧ g < w.heap.size := by
  rcases h.2 with h0 | ⟨g, cap, cur, rfl, hb, hg, _⟩
  · exact .inl h0
  · exact .inr ⟨g, cap, rfl, rfl, hb, (Array.getElem?_eq_some_iff.1 hg).1⟩
theorem own_slice (h : w.ownsRow base e size v n xs) : ∃ A c, v = .slice A n c := by
  rcases own_form h with ⟨rfl, rfl⟩ | ⟨g, c, rfl, _⟩
  · exact ⟨_, _, rfl⟩
  · exact ⟨_, _, rfl⟩
theorem own_block (h : w.ownsRow base e size v n xs) {g : Nat} (hg : v.ownBlock = some g) : ∃ cur, w.heap[g]? = some (.cells cur e (0, 0)) := by
  rcases h.2 with ⟨rfl, _⟩ | ⟨g', cap, cur, rfl, hb, hgg, _⟩
  · simp [Value.ownBlock] at hg
  · simp [Value.ownBlock] at hg
    subst hg
    exact ⟨cur, hgg⟩
theorem own_frozen (h : w.ownsRow base e size v n xs) {g : Nat} (hg : v.ownBlock = some g) (k : Nat) : w.frozen? ⟨g, k, none⟩ = false := by
  obtain ⟨cur, hb⟩ := own_block h hg
  simp [World.frozen?, hb]
theorem own_types {e' : TypeId} {size' n' : Nat} {v' : Value} {xs' : List Value} {base' : Nat} (h : w.ownsRow base e size v n xs) (h' : w.ownsRow base' e' size' v' n' xs') (hne : e ≠ e') {g : Nat} (hg : v.ownBlock = some g) : v'.ownBlock ≠ some g := by
  intro hg'
  obtain ⟨c1, h1⟩ := own_block h hg
  obtain ⟨c2, h2⟩ := own_block h' hg'
  rw [h1] at h2
  injection h2 with h2; injection h2 with _ h2
  exact hne h2
theorem grown_setCell (w : World) (g o : Nat) (u : Value) : w.grownBy (w.setCell ⟨g, o, none⟩ u) (some g) :=
  ⟨rfl, rfl, rfl, by show w.heap.size ≤ (w.heap.modify g _).size; rw [Array.size_modify]; exact Nat.le_refl _, fun k _ hk => Below.heap_setCell w ⟨g, o, none⟩ u k (fun e => hk (by rw [e]))⟩
theorem grown_setCells (g : Nat) : ∀ (us : List Value) (w : World) (o : Nat), w.grownBy (w.setCells g o us) (some g)
  | [], w, _ => World.grownBy.refl w _
  | u :: us, w, o => (grown_setCell w g o u).trans (grown_setCells g us _ (o + 1))
theorem own_set {n cap g : Nat} (h : w.ownsRow base e size (.slice (some ⟨g, 0, none⟩) n cap) n xs) (k : Nat) (u : Value) :
    (w.setCell ⟨g, k, none⟩ u).ownsRow base e size (.slice (some ⟨g, 0, none⟩) n cap) n (xs.set k u) := by
  refine ⟨by rw [List.length_set]; exact h.1, .inr ?_⟩
  rcases h.2 with ⟨e1, _⟩ | ⟨g', cap', cur, e1, hb, hg, h1, h2, h3, h4⟩
  · cases e1
  have e2 : g = g' ∧ cap = cap' := by simpa using e1
  obtain ⟨rfl, rfl⟩ := e2
  obtain ⟨hlt, hk'⟩ := Array.getElem?_eq_some_iff.1 hg
  refine ⟨g, cap, cur.setIfInBounds k u, rfl, hb, ?_, h1, h2, by simpa using h3, ?_⟩
  · show (w.heap.modify g _)[g]? = _
    rw [Array.getElem?_eq_getElem (by rw [Array.size_modify]; exact hlt), Array.getElem_modify_self, hk']
    rfl
  · rw [Array.toList_setIfInBounds, List.take_set, h4]
def setL : List Value → Nat → List Value → List Value
  | xs, _, [] => xs
  | xs, o, u :: us => setL (xs.set o u) (o + 1) us
theorem setL_len : ∀ (us xs : List Value) (o : Nat), (setL xs o us).length = xs.length
  | [], _, _ => rfl
  | u :: us, xs, o => by rw [setL, setL_len us]; simp
theorem setL_get : ∀ (us xs : List Value) (o j : Nat), o + us.length ≤ xs.length → (setL xs o us)[j]? = if o ≤ j ∧ j < o + us.length then us[j - o]? else xs[j]?
  | [], xs, o, j, _ => by
    rw [if_neg (by simp)]; rfl
  | u :: us, xs, o, j, h => by
    have h' : o + 1 + us.length ≤ (xs.set o u).length := by simp at h ⊢; omega
    rw [setL, setL_get us _ (o + 1) j h']
    by_cases h1 : o + 1 ≤ j ∧ j < o + 1 + us.length
    · rw [if_pos h1, if_pos (by simp; omega)]
      have : j - o = (j - (o + 1)) + 1 := by omega
      rw [this, List.getElem?_cons_succ]
    · rw [if_neg h1]
      by_cases h2 : j = o
      · subst h2
        rw [if_pos (by simp), List.getElem?_set_self (by simp at h; omega)]; simp
      · rw [if_neg (by simp only [List.length_cons]; omega), List.getElem?_set_ne (fun e => h2 e.symm)]
theorem own_setCells {n cap g : Nat} : ∀ (us : List Value) (w : World) (xs : List Value) (o : Nat), w.ownsRow base e size (.slice (some ⟨g, 0, none⟩) n cap) n xs → o + us.length ≤ n * size →
    (w.setCells g o us).ownsRow base e size (.slice (some ⟨g, 0, none⟩) n cap) n (setL xs o us)
  | [], _, _, _, h, _ => h
  | u :: us, w, xs, o, h, hl => own_setCells us _ _ (o + 1) (own_set h o u) (by simp at hl; omega)
end

/-! A box of three cells. -/
def Box3 (w : World) (b : Nat) (t : TypeId) (v0 v1 v2 : Value) : Prop := w.heap[b]? = some (.cells #[v0, v1, v2] t (0, 0))
section
variable {w w' : World} {b : Nat} {t : TypeId} {v0 v1 v2 : Value}
theorem Box3.lt (h : Box3 w b t v0 v1 v2) : b < w.heap.size := (Array.getElem?_eq_some_iff.1 h).1
theorem Box3.new (w : World) (t : TypeId) (v0 v1 v2 : Value) : Box3 (w.alloc (.cells #[v0, v1, v2] t)) w.heap.size t v0 v1 v2 := heap_alloc_new w _
theorem Box3.cell0 (h : Box3 w b t v0 v1 v2) : w.cell? ⟨b, 0, none⟩ = some v0 := by unfold Box3 at h; simp [World.cell?, h]
theorem Box3.cell1 (h : Box3 w b t v0 v1 v2) : w.cell? ⟨b, 1, none⟩ = some v1 := by unfold Box3 at h; simp [World.cell?, h]
theorem Box3.cell2 (h : Box3 w b t v0 v1 v2) : w.cell? ⟨b, 2, none⟩ = some v2 := by unfold Box3 at h; simp [World.cell?, h]
theorem Box3.frozen (h : Box3 w b t v0 v1 v2) (o : Nat) : w.frozen? ⟨b, o, none⟩ = false := by unfold Box3 at h; simp [World.frozen?, h]
theorem Box3.kept (h : Box3 w b t v0 v1 v2) {row : Option Nat} (hg : w.grownBy w' row) (hne : some b ≠ row) : Box3 w' b t v0 v1 v2 := (hg.block b h.lt hne).trans h
theorem Box3.below (h : Box3 w b t v0 v1 v2) {n : Nat} (hb : Below n w w') (hn : b < n) : Box3 w' b t v0 v1 v2 := (hb.block b hn).trans h
theorem Box3.alloc (h : Box3 w b t v0 v1 v2) (o : Obj) : Box3 (w.alloc o) b t v0 v1 v2 := h.kept (World.grownBy_alloc w o none) (fun e => by cases e)
theorem Box3.drew (h : Box3 w b t v0 v1 v2) : Box3 w.drew b t v0 v1 v2 := h
theorem Box3.far (h : Box3 w b t v0 v1 v2) {p : Addr} (hp : b ≠ p.block) (u : Value) : Box3 (w.setCell p u) b t v0 v1 v2 := (Below.heap_setCell w p u b hp).trans h
theorem Box3.set_ (h : Box3 w b t v0 v1 v2) (k : Nat) (u : Value) : (w.setCell ⟨b, k, none⟩ u).heap[b]? = some (.cells (#[v0, v1, v2].setIfInBounds k u) t (0, 0)) := by
  unfold Box3 at h
  obtain ⟨hlt, hk⟩ := Array.getElem?_eq_some_iff.1 h
  show (w.heap.modify b _)[b]? = _
  rw [Array.getElem?_eq_getElem (by rw [Array.size_modify]; exact hlt), Array.getElem_modify_self, hk]
  rfl
theorem Box3.set0 (h : Box3 w b t v0 v1 v2) (u : Value) : Box3 (w.setCell ⟨b, 0, none⟩ u) b t u v1 v2 := h.set_ 0 u
theorem Box3.set1 (h : Box3 w b t v0 v1 v2) (u : Value) : Box3 (w.setCell ⟨b, 1, none⟩ u) b t v0 u v2 := h.set_ 1 u
theorem Box3.set2 (h : Box3 w b t v0 v1 v2) (u : Value) : Box3 (w.setCell ⟨b, 2, none⟩ u) b t v0 v1 u := h.set_ 2 u
end

theorem own_ne_box {w : World} {base size n b : Nat} {e t : TypeId} {v v0 v1 v2 : Value} {xs : List Value} (h : w.ownsRow base e size v n xs) (hb : Box3 w b t v0 v1 v2) (hne : e ≠ t) : v.ownBlock ≠ some b := by
  intro hg
  obtain ⟨c1, h1⟩ := own_block h hg
  rw [show w.heap[b]? = _ from hb] at h1
  injection h1 with h1; injection h1 with _ h2
  exact hne h2.symm

/-! An event's cells, its inner rows in blocks of which C holds. -/
def InC (C : Nat → Prop) (A : Option Addr) (l : List Int) : Prop := 0 < l.length → ∀ ad, A = some ad → C ad.block
theorem Ints.keepC {w w' : World} {C : Nat → Prop} {A : Option Addr} {l : List Int} (h : Ints w A l) (hC : InC C A l) (hk : ∀ b o u, C b → w.cell? ⟨b, o, none⟩ = some u → w'.cell? ⟨b, o, none⟩ = some u) : Ints w' A l :=
  ⟨h.1, fun hp => by
    obtain ⟨b, off, rfl, hc⟩ := h.2 hp
    exact ⟨b, off, rfl, fun j hj => hk b _ _ (hC hp _ rfl) (hc j hj)⟩⟩
structure EvIn (w : World) (C : Nat → Prop) (cs : List Value) (e : Ev) : Prop where
  cells : EvCells w cs e
  i10 : ∀ A n c, cs[10]? = some (.slice A n c) → InC C A e.addrs
  i11 : ∀ A n c, cs[11]? = some (.slice A n c) → InC C A e.datas
  i12 : ∀ A n c, cs[12]? = some (.slice A n c) → InC C A e.ctrls
theorem EvIn.keep {w w' : World} {C : Nat → Prop} {cs : List Value} {e : Ev} (h : EvIn w C cs e) (hk : ∀ b o u, C b → w.cell? ⟨b, o, none⟩ = some u → w'.cell? ⟨b, o, none⟩ = some u) : EvIn w' C cs e where
  cells :=
    { c0 := h.cells.c0, c1 := h.cells.c1, c2 := h.cells.c2, c3 := h.cells.c3, c4 := h.cells.c4, c5 := h.cells.c5, c6 := h.cells.c6, c7 := h.cells.c7, c8 := h.cells.c8, c9 := h.cells.c9
      c10 := by obtain ⟨A, c, h1, h2⟩ := h.cells.c10; exact ⟨A, c, h1, h2.keepC (h.i10 _ _ _ h1) hk⟩
      c11 := by obtain ⟨A, c, h1, h2⟩ := h.cells.c11; exact ⟨A, c, h1, h2.keepC (h.i11 _ _ _ h1) hk⟩
      c12 := by obtain ⟨A, c, h1, h2⟩ := h.cells.c12; exact ⟨A, c, h1, h2.keepC (h.i12 _ _ _ h1) hk⟩ }
  i10 := h.i10
  i11 := h.i11
  i12 := h.i12
theorem EvIn.more {w : World} {C C' : Nat → Prop} {cs : List Value} {e : Ev} (h : EvIn w C cs e) (hk : ∀ b, C b → C' b) : EvIn w C' cs e where
  cells := h.cells
  i10 := fun A n c ha hp ad he => hk _ (h.i10 A n c ha hp ad he)
  i11 := fun A n c ha hp ad he => hk _ (h.i11 A n c ha hp ad he)
  i12 := fun A n c ha hp ad he => hk _ (h.i12 A n c ha hp ad he)
theorem EvIn.congr {w : World} {C : Nat → Prop} {cs cs' : List Value} {e : Ev} (h : EvIn w C cs e) (hk : ∀ j, j < 13 → cs[j]? = cs'[j]?) : EvIn w C cs' e where
  cells :=
    { c0 := (hk 0 (by omega)).symm.trans h.cells.c0, c1 := (hk 1 (by omega)).symm.trans h.cells.c1, c2 := (hk 2 (by omega)).symm.trans h.cells.c2, c3 := (hk 3 (by omega)).symm.trans h.cells.c3
      c4 := (hk 4 (by omega)).symm.trans h.cells.c4, c5 := (hk 5 (by omega)).symm.trans h.cells.c5, c6 := (hk 6 (by omega)).symm.trans h.cells.c6, c7 := (hk 7 (by omega)).symm.trans h.cells.c7
      c8 := (hk 8 (by omega)).symm.trans h.cells.c8, c9 := (hk 9 (by omega)).symm.trans h.cells.c9
      c10 := by obtain ⟨A, c, h1, h2⟩ := h.cells.c10; exact ⟨A, c, (hk 10 (by omega)).symm.trans h1, h2⟩
      c11 := by obtain ⟨A, c, h1, h2⟩ := h.cells.c11; exact ⟨A, c, (hk 11 (by omega)).symm.trans h1, h2⟩
      c12 := by obtain ⟨A, c, h1, h2⟩ := h.cells.c12; exact ⟨A, c, (hk 12 (by omega)).symm.trans h1, h2⟩ }
  i10 := fun A n c ha => h.i10 A n c ((hk 10 (by omega)).trans ha)
  i11 := fun A n c ha => h.i11 A n c ((hk 11 (by omega)).trans ha)
  i12 := fun A n c ha => h.i12 A n c ((hk 12 (by omega)).trans ha)

theorem EvIn.mk13 {w : World} {C : Nat → Prop} (e : Ev) {P1 P2 P3 : Option Addr} {n1 n2 n3 : Nat} (hA : Ints w P1 e.addrs) (hD : Ints w P2 e.datas) (hK : Ints w P3 e.ctrls) (iA : InC C P1 e.addrs) (iD : InC C P2 e.datas) (iK : InC C P3 e.ctrls) :
    EvIn w C [.int .i64 e.hart, .int .i64 e.kind, .int .u32 e.addr, .int .u32 e.value, .int .u32 e.readv, .bool e.aq, .bool e.rl, .int .i64 e.pred, .int .i64 e.succ, .bool e.resv, .slice P1 e.addrs.length n1, .slice P2 e.datas.length n2, .slice P3 e.ctrls.length n3] e where
  cells := ⟨rfl, rfl, rfl, rfl, rfl, rfl, rfl, rfl, rfl, rfl, ⟨_, _, rfl, hA⟩, ⟨_, _, rfl, hD⟩, ⟨_, _, rfl, hK⟩⟩
  i10 := fun A n c h => by
    have h2 : some (Value.slice P1 e.addrs.length n1) = some (Value.slice A n c) := h
    injection h2 with h2; injection h2 with h2; subst h2; exact iA
  i11 := fun A n c h => by
    have h2 : some (Value.slice P2 e.datas.length n2) = some (Value.slice A n c) := h
    injection h2 with h2; injection h2 with h2; subst h2; exact iD
  i12 := fun A n c h => by
    have h2 : some (Value.slice P3 e.ctrls.length n3) = some (Value.slice A n c) := h
    injection h2 with h2; injection h2 with h2; subst h2; exact iK
/-- A row of events, as a list of cells. -/
theorem evs_cells {w : World} {A : Option Addr} {l : List Ev} (h : Evs w A l) : ∃ xs : List Value, xs.length = l.length * 13 ∧ SrcAt w A xs ∧ (∀ u ∈ xs, u.oneCell' = true) ∧ ∀ j, j < l.length → EvIn w (· < w.heap.size) (xs.drop (j * 13)) (l[j]?.getD zev) := by
  rcases Nat.eq_zero_or_pos l.length with h0 | hp
  · refine ⟨[], by simp [h0], fun hp => by simp at hp, by simp, fun j hj => by omega⟩
  · obtain ⟨b, off, rfl, hc⟩ := h.2 hp
    have hblk : ∀ {A : Option Addr} {l : List Int}, Ints w A l → InC (· < w.heap.size) A l := fun hi hp ad he => by
      obtain ⟨b, off, rfl, hcs⟩ := hi.2 hp
      injection he with he; subst he
      exact World.block_lt_of_cell? w _ (hcs 0 hp)
    refine ⟨(List.range (l.length * 13)).map fun k => (w.cell? ⟨b, off + k, none⟩).getD undef, by simp, ?_, ?_, ?_⟩
    · intro _
      refine ⟨b, off, rfl, fun j u hu => ?_⟩
      rw [List.getElem?_map] at hu
      have hj : j < l.length * 13 := by
        rcases Nat.lt_or_ge j (l.length * 13) with h1 | h1
        · exact h1
        · rw [List.getElem?_eq_none (by simpa using h1)] at hu; cases hu
      rw [List.getElem?_range hj] at hu
      have he := hc (j / 13) (by omega)
      have hsome : ∃ u, w.cell? ⟨b, off + j, none⟩ = some u := by
        have hj2 : off + j = off + j / 13 * 13 + j % 13 := by omega
        have hm : j % 13 < 13 := Nat.mod_lt _ (by omega)
        rw [hj2]
        generalize j % 13 = r at hm
        obtain ⟨_, _, g10, _⟩ := he.c10
        obtain ⟨_, _, g11, _⟩ := he.c11
        obtain ⟨_, _, g12, _⟩ := he.c12
        match r, hm with
        | 0, _ => exact ⟨_, he.c0⟩
        | 1, _ => exact ⟨_, he.c1⟩
        | 2, _ => exact ⟨_, he.c2⟩
        | 3, _ => exact ⟨_, he.c3⟩
        | 4, _ => exact ⟨_, he.c4⟩
        | 5, _ => exact ⟨_, he.c5⟩
        | 6, _ => exact ⟨_, he.c6⟩
        | 7, _ => exact ⟨_, he.c7⟩
        | 8, _ => exact ⟨_, he.c8⟩
        | 9, _ => exact ⟨_, he.c9⟩
        | 10, _ => exact ⟨_, g10⟩
        | 11, _ => exact ⟨_, g11⟩
        | 12, _ => exact ⟨_, g12⟩
      obtain ⟨u', hu'⟩ := hsome
      simp only [Option.map_some, Option.some.injEq] at hu
      rw [hu'] at hu ⊢
      rw [← hu]; rfl
    · intro u hu
      obtain ⟨k, hk, rfl⟩ := List.mem_map.1 hu
      have hk := List.mem_range.1 hk
      have he := hc (k / 13) (by omega)
      have hj2 : off + k = off + k / 13 * 13 + k % 13 := by omega
      have hm : k % 13 < 13 := Nat.mod_lt _ (by omega)
      rw [hj2]
      generalize k % 13 = r at hm
      obtain ⟨_, _, g10, _⟩ := he.c10
      obtain ⟨_, _, g11, _⟩ := he.c11
      obtain ⟨_, _, g12, _⟩ := he.c12
      match r, hm with
      | 0, _ => rw [Nat.add_zero, he.c0]; rfl
      | 1, _ => rw [he.c1]; rfl
      | 2, _ => rw [he.c2]; rfl
      | 3, _ => rw [he.c3]; rfl
      | 4, _ => rw [he.c4]; rfl
      | 5, _ => rw [he.c5]; rfl
      | 6, _ => rw [he.c6]; rfl
      | 7, _ => rw [he.c7]; rfl
      | 8, _ => rw [he.c8]; rfl
      | 9, _ => rw [he.c9]; rfl
      | 10, _ => rw [g10]; rfl
      | 11, _ => rw [g11]; rfl
      | 12, _ => rw [g12]; rfl
    · intro j hj
      have he := hc j hj
      have hget : ∀ r, r < 13 → (((List.range (l.length * 13)).map fun k => (w.cell? ⟨b, off + k, none⟩).getD undef).drop (j * 13))[r]? = some ((w.cell? ⟨b, off + j * 13 + r, none⟩).getD undef) := fun r hr => by
        rw [List.getElem?_drop, List.getElem?_map, List.getElem?_range (by omega), Nat.add_assoc]; rfl
      obtain ⟨A0, c0, g10, h10⟩ := he.c10
      obtain ⟨A1, c1, g11, h11⟩ := he.c11
      obtain ⟨A2, c2, g12, h12⟩ := he.c12
      have k10 := hget 10 (by omega)
      have k11 := hget 11 (by omega)
      have k12 := hget 12 (by omega)
      rw [g10] at k10
      rw [g11] at k11
      rw [g12] at k12
      refine ⟨⟨?_, ?_, ?_, ?_, ?_, ?_, ?_, ?_, ?_, ?_, ⟨A0, c0, k10, h10⟩, ⟨A1, c1, k11, h11⟩, ⟨A2, c2, k12, h12⟩⟩, ?_, ?_, ?_⟩
      · rw [hget 0 (by omega), Nat.add_zero, he.c0]; rfl
      · rw [hget 1 (by omega), he.c1]; rfl
      · rw [hget 2 (by omega), he.c2]; rfl
      · rw [hget 3 (by omega), he.c3]; rfl
      · rw [hget 4 (by omega), he.c4]; rfl
      · rw [hget 5 (by omega), he.c5]; rfl
      · rw [hget 6 (by omega), he.c6]; rfl
      · rw [hget 7 (by omega), he.c7]; rfl
      · rw [hget 8 (by omega), he.c8]; rfl
      · rw [hget 9 (by omega), he.c9]; rfl
      · intro A n c h; rw [k10] at h
        have : A0 = A := by simpa using congrArg (fun o => match o with | some (Value.slice A _ _) => A | _ => none) h
        subst this; exact hblk h10
      · intro A n c h; rw [k11] at h
        have : A1 = A := by simpa using congrArg (fun o => match o with | some (Value.slice A _ _) => A | _ => none) h
        subst this; exact hblk h11
      · intro A n c h; rw [k12] at h
        have : A2 = A := by simpa using congrArg (fun o => match o with | some (Value.slice A _ _) => A | _ => none) h
        subst this; exact hblk h12
theorem ints_src {w : World} {A : Option Addr} {l : List Int} (h : Ints w A l) : SrcAt w A (l.map (Value.int .i64)) := fun hp => by
  obtain ⟨b, off, rfl, hc⟩ := h.2 (by simpa using hp)
  refine ⟨b, off, rfl, fun j u hu => ?_⟩
  rw [List.getElem?_map] at hu
  cases hj : l[j]? with
  | none => rw [hj] at hu; cases hu
  | some z =>
    rw [hj] at hu
    have hjl : j < l.length := (List.getElem?_eq_some_iff.1 hj).1
    have := hc j hjl
    rw [hj] at this
    rw [this]; simpa using hu
theorem ints_one (l : List Int) : ∀ u ∈ l.map (Value.int .i64), u.oneCell' = true := by
  intro u hu; obtain ⟨z, _, rfl⟩ := List.mem_map.1 hu; rfl

/-! An execution in rows of one's own. -/
structure RwS (w : World) (n0 M : Nat) (tI : TypeId) (vF : Value) (L : List (List Int)) (vs : List Value) : Prop where
  len : vs.length = L.length
  row : ∀ j, j < L.length → ∃ v, vs[j]? = some v ∧ w.ownsRow n0 tI 1 v (L[j]?.getD []).length ((L[j]?.getD []).map (Value.int .i64))
  bnd : ∀ v ∈ vs, ∀ g, v.ownBlock = some g → n0 ≤ g ∧ g < M ∧ vF.ownBlock ≠ some g
  dist : ∀ (i j : Nat) (v v' : Value), i ≠ j → vs[i]? = some v → vs[j]? = some v' → ∀ g, v.ownBlock = some g → v'.ownBlock ≠ some g
structure Small (x : Ex) : Prop where
  evs : x.evs.length ≤ 17592186044416
  src : x.src.length ≤ 17592186044416
  order : x.order.length ≤ 17592186044416
  row : ∀ l ∈ x.order, l.length ≤ 17592186044416
structure Cp (w : World) (C : Nat → Prop) (n0 M : Nat) (tE tI tS : TypeId) (x : Ex) (vE vF vO : Value) (vs : List Value) : Prop where
  small : Small x
  hC : ∀ b, C b → b < n0 ∨ M ≤ b
  hM : M ≤ w.heap.size
  E : ∃ xs, w.ownsRow n0 tE 13 vE x.evs.length xs ∧ ∀ j, j < x.evs.length → EvIn w C (xs.drop (j * 13)) (x.evs[j]?.getD zev)
  bE : ∀ g, vE.ownBlock = some g → n0 ≤ g ∧ g < M
  F : w.ownsRow n0 tI 1 vF x.src.length (x.src.map (Value.int .i64))
  bF : ∀ g, vF.ownBlock = some g → n0 ≤ g ∧ g < M
  O : w.ownsRow n0 tS 1 vO x.order.length vs
  bO : ∀ g, vO.ownBlock = some g → n0 ≤ g ∧ g < M
  R : RwS w n0 M tI vF x.order vs

section
variable {w w' : World} {C : Nat → Prop} {n0 M : Nat} {tE tI tS : TypeId} {x : Ex} {vE vF vO : Value} {vs : List Value}
theorem getD_some {v : Value} {A : Option Addr} {n c : Nat} (h : v = .slice A n c) : ∃ A c, v = .slice A n c := ⟨A, c, h⟩
theorem Ints.of_own {l : List Int} {v : Value} {base : Nat} {e : TypeId} (h : w.ownsRow base e 1 v l.length (l.map (Value.int .i64))) (hl : l.length ≤ 17592186044416) : ∃ A c, v = .slice A l.length c ∧ Ints w A l := by
  rcases own_form h with ⟨rfl, h0⟩ | ⟨g, c, rfl, hg, _⟩
  · exact ⟨none, 0, by rw [h0], hl, fun hp => by omega⟩
  · refine ⟨_, c, rfl, hl, fun _ => ⟨g, 0, rfl, fun j hj => ?_⟩⟩
    rw [Nat.zero_add, own_cell h (by omega) hg, List.getElem?_map, List.getElem?_eq_getElem hj]; rfl
theorem Cp.exAt (h : Cp w C n0 M tE tI tS x vE vF vO vs) : ∃ Ae ce Af cf Ao co, vE = .slice Ae x.evs.length ce ∧ vF = .slice Af x.src.length cf ∧ vO = .slice Ao x.order.length co ∧ ExAt w Ae Af Ao x := by
  obtain ⟨xs, hE, hin⟩ := h.E
  obtain ⟨Af, cf, hvF, hF⟩ := Ints.of_own h.F h.small.src
  have hEv : ∃ Ae ce, vE = .slice Ae x.evs.length ce ∧ Evs w Ae x.evs := by
    rcases own_form hE with ⟨rfl, h0⟩ | ⟨g, c, rfl, hg, _⟩
    · exact ⟨none, 0, by rw [h0], h.small.evs, fun hp => by omega⟩
    · refine ⟨_, c, rfl, h.small.evs, fun _ => ⟨g, 0, rfl, fun j hj => (hin j hj).cells.at fun r hr => ?_⟩⟩
      rw [Nat.zero_add, own_cell hE (by omega) hg, List.getElem?_drop]
  have hO : ∃ Ao co, vO = .slice Ao x.order.length co ∧ Rows w Ao x.order := by
    rcases own_form h.O with ⟨rfl, h0⟩ | ⟨g, c, rfl, hg, _⟩
    · exact ⟨none, 0, by rw [h0], h.small.order, fun hp => by omega⟩
    · refine ⟨_, c, rfl, h.small.order, fun _ => ⟨g, 0, rfl, fun j hj => ?_⟩⟩
      obtain ⟨v, hv, hrow⟩ := h.R.row j hj
      have hm : x.order[j]?.getD [] ∈ x.order := by rw [List.getElem?_eq_getElem hj]; exact List.getElem_mem hj
      obtain ⟨B, c', rfl, hI⟩ := Ints.of_own hrow (h.small.row _ hm)
      exact ⟨B, c', by rw [Nat.zero_add, own_cell h.O (by omega) hg, hv], hI⟩
  obtain ⟨Ae, ce, e1, e2⟩ := hEv
  obtain ⟨Ao, co, e3, e4⟩ := hO
  exact ⟨Ae, ce, Af, cf, Ao, co, e1, hvF, e3, e2, hF, e4⟩
/-- What changes none of the rows. -/
theorem Cp.kept (h : Cp w C n0 M tE tI tS x vE vF vO vs) {row : Option Nat} (hg : w.grownBy w' row) (hr : ∀ g, row = some g → ¬ C g ∧ ((g < n0 ∨ M ≤ g) ∨ ∃ cur t fr, w.heap[g]? = some (.cells cur t fr) ∧ t ≠ tE ∧ t ≠ tI ∧ t ≠ tS)) : Cp w' C n0 M tE tI tS x vE vF vO vs := by
  have hfree : ∀ {e : TypeId} {size n : Nat} {v : Value} {xs : List Value}, w.ownsRow n0 e size v n xs → (e = tE ∨ e = tI ∨ e = tS) → (∀ g, v.ownBlock = some g → g < M) → v.ownBlock = none ∨ v.ownBlock ≠ row := by
    intro e size n v xs ho he hb
    cases hv : v.ownBlock with
    | none => exact .inl rfl
    | some g =>
      refine .inr fun e1 => ?_
      obtain ⟨_, h2⟩ := hr g e1.symm
      rcases h2 with h2 | ⟨cur, t, fr, h3, h4, h5, h6⟩
      · have := ho.lt g hv
        have := hb g hv
        omega
      · obtain ⟨c1, h1⟩ := own_block ho hv
        rw [h1] at h3
        injection h3 with h3; injection h3 with _ h3
        subst h3
        rcases he with rfl | rfl | rfl <;> contradiction
  have hk : ∀ b o u, C b → w.cell? ⟨b, o, none⟩ = some u → w'.cell? ⟨b, o, none⟩ = some u := fun b o u hb hc => hg.cell hc (fun e => (hr b e.symm).1 hb)
  obtain ⟨xs, hE, hin⟩ := h.E
  exact
    { small := h.small, hC := h.hC, hM := Nat.le_trans h.hM hg.size
      E := ⟨xs, hE.kept hg (hfree hE (.inl rfl) fun g hg => (h.bE g hg).2), fun j hj => (hin j hj).keep hk⟩
      bE := h.bE
      F := h.F.kept hg (hfree h.F (.inr (.inl rfl)) fun g hg => (h.bF g hg).2)
      bF := h.bF
      O := h.O.kept hg (hfree h.O (.inr (.inr rfl)) fun g hg => (h.bO g hg).2)
      bO := h.bO
      R :=
        { len := h.R.len
          row := fun j hj => by
            obtain ⟨v, hv, ho⟩ := h.R.row j hj
            exact ⟨v, hv, ho.kept hg (hfree ho (.inr (.inl rfl)) fun g hg => (h.R.bnd v (List.mem_of_getElem? hv) g hg).2.1)⟩
          bnd := h.R.bnd
          dist := h.R.dist } }
theorem Cp.alloc (h : Cp w C n0 M tE tI tS x vE vF vO vs) (o : Obj) : Cp (w.alloc o) C n0 M tE tI tS x vE vF vO vs := h.kept (World.grownBy_alloc w o none) (fun g e => by cases e)
theorem Cp.drew (h : Cp w C n0 M tE tI tS x vE vF vO vs) : Cp w.drew C n0 M tE tI tS x vE vF vO vs := h.kept (w' := w.drew) ⟨rfl, rfl, rfl, Nat.le_refl _, fun _ _ _ => rfl⟩ (row := none) (fun g e => by cases e)
theorem Cp.below (h : Cp w C n0 M tE tI tS x vE vF vO vs) (hb : Below w.heap.size w w') : Cp w' C n0 M tE tI tS x vE vF vO vs := h.kept (row := none) ⟨hb.os, hb.tape, hb.output, hb.size, fun k hk _ => hb.block k hk⟩ (fun g e => by cases e)
/-- A store elsewhere. -/
theorem Cp.far (h : Cp w C n0 M tE tI tS x vE vF vO vs) {g : Nat} (hg : g < n0 ∨ M ≤ g) (hc : ¬ C g) (o : Nat) (u : Value) : Cp (w.setCell ⟨g, o, none⟩ u) C n0 M tE tI tS x vE vF vO vs :=
  h.kept (grown_setCell w g o u) (fun g' e => by cases e; exact ⟨hc, .inl hg⟩)
theorem Cp.farT (h : Cp w C n0 M tE tI tS x vE vF vO vs) {g : Nat} (hc : ¬ C g) {cur : Array Value} {t : TypeId} {fr : Nat × Nat} (hg : w.heap[g]? = some (.cells cur t fr)) (h1 : t ≠ tE) (h2 : t ≠ tI) (h3 : t ≠ tS) (o : Nat) (u : Value) : Cp (w.setCell ⟨g, o, none⟩ u) C n0 M tE tI tS x vE vF vO vs :=
  h.kept (grown_setCell w g o u) (fun g' e => by cases e; exact ⟨hc, .inr ⟨cur, t, fr, hg, h1, h2, h3⟩⟩)
theorem Cp.more (h : Cp w C n0 M tE tI tS x vE vF vO vs) {C' : Nat → Prop} (hk : ∀ b, C b → C' b) (hC : ∀ b, C' b → b < n0 ∨ M ≤ b) : Cp w C' n0 M tE tI tS x vE vF vO vs :=
  { h with hC := hC, E := by obtain ⟨xs, hE, hin⟩ := h.E; exact ⟨xs, hE, fun j hj => (hin j hj).more hk⟩ }
theorem Cp.up (h : Cp w C n0 M tE tI tS x vE vF vO vs) {M' : Nat} (hM : M ≤ M') (hM' : M' ≤ w.heap.size) (hC : ∀ b, C b → b < n0) : Cp w C n0 M' tE tI tS x vE vF vO vs :=
  { h with
    hC := fun b hb => .inl (hC b hb), hM := hM'
    bE := fun g hg => ⟨(h.bE g hg).1, Nat.lt_of_lt_of_le (h.bE g hg).2 hM⟩
    bF := fun g hg => ⟨(h.bF g hg).1, Nat.lt_of_lt_of_le (h.bF g hg).2 hM⟩
    bO := fun g hg => ⟨(h.bO g hg).1, Nat.lt_of_lt_of_le (h.bO g hg).2 hM⟩
    R := { h.R with bnd := fun v hv g hg => ⟨(h.R.bnd v hv g hg).1, Nat.lt_of_lt_of_le (h.R.bnd v hv g hg).2.1 hM, (h.R.bnd v hv g hg).2.2⟩ } }

theorem own_base {base' : Nat} {e : TypeId} {size n : Nat} {v : Value} {xs : List Value} (h : w.ownsRow n0 e size v n xs) (hb : base' ≤ n0) : w.ownsRow base' e size v n xs :=
  ⟨h.1, h.2.imp id fun ⟨g, cap, cur, h1, h2, h3⟩ => ⟨g, cap, cur, h1, Nat.le_trans hb h2, h3⟩⟩
theorem Cp.base (h : Cp w C n0 M tE tI tS x vE vF vO vs) {b : Nat} (hb : b ≤ n0) (hC : ∀ g, C g → g < b) : Cp w C b M tE tI tS x vE vF vO vs :=
  { h with
    hC := fun g hg => .inl (hC g hg)
    E := by obtain ⟨xs, hE, hin⟩ := h.E; exact ⟨xs, own_base hE hb, hin⟩
    bE := fun g hg => ⟨Nat.le_trans hb (h.bE g hg).1, (h.bE g hg).2⟩
    F := own_base h.F hb
    bF := fun g hg => ⟨Nat.le_trans hb (h.bF g hg).1, (h.bF g hg).2⟩
    O := own_base h.O hb
    bO := fun g hg => ⟨Nat.le_trans hb (h.bO g hg).1, (h.bO g hg).2⟩
    R := { h.R with
           row := fun j hj => by obtain ⟨v, hv, ho⟩ := h.R.row j hj; exact ⟨v, hv, own_base ho hb⟩
           bnd := fun v hv g hg => ⟨Nat.le_trans hb (h.R.bnd v hv g hg).1, (h.R.bnd v hv g hg).2⟩ } }

theorem not_C (h : Cp w C n0 M tE tI tS x vE vF vO vs) {g : Nat} (hg : n0 ≤ g ∧ g < M) : ¬ C g := fun hc => by have := h.hC g hc; omega
/-- An event stored anew. -/
theorem Cp.setEv (h : Cp w C n0 M tE tI tS x vE vF vO vs) (hEI : tE ≠ tI) (hES : tE ≠ tS) {i g : Nat} (hi : i < x.evs.length) (hg : vE.ownBlock = some g) {cs : List Value} {e : Ev} (hl : cs.length = 13) (he : EvIn w C cs e) :
    Cp (w.setCells g (i * 13) cs) C n0 M tE tI tS { x with evs := x.evs.set i e } vE vF vO vs := by
  have hgr := grown_setCells g cs w (i * 13)
  have hbg := h.bE g hg
  have hng := not_C h hbg
  have hk : ∀ b o u, C b → w.cell? ⟨b, o, none⟩ = some u → (w.setCells g (i * 13) cs).cell? ⟨b, o, none⟩ = some u := fun b o u hb hc => hgr.cell hc (fun e => by injection e with e; exact hng (e ▸ hb))
  obtain ⟨xs, hE, hin⟩ := h.E
  obtain ⟨Av, cv, hvE⟩ := own_slice hE
  have hvE' : ∃ cap, vE = .slice (some ⟨g, 0, none⟩) x.evs.length cap := by
    rcases own_form hE with ⟨rfl, h0⟩ | ⟨g', c, rfl, hg', _⟩
    · omega
    · rw [hg] at hg'; injection hg' with hg'; subst hg'; exact ⟨c, rfl⟩
  obtain ⟨cap, hvE'⟩ := hvE'
  have hE' := hE
  rw [hvE'] at hE'
  have hES' := own_setCells (g := g) cs w xs (i * 13) hE' (by rw [hl]; omega)
  have hnF : vF.ownBlock = none ∨ vF.ownBlock ≠ some g := .inr (own_types hE h.F hEI hg)
  have hnO : vO.ownBlock = none ∨ vO.ownBlock ≠ some g := .inr (own_types hE h.O hES hg)
  exact
    { small := ⟨by simpa using h.small.evs, h.small.src, h.small.order, h.small.row⟩
      hC := h.hC, hM := Nat.le_trans h.hM hgr.size
      E := ⟨setL xs (i * 13) cs, by rw [hvE']; simpa using hES', fun j hj => by
        have hj' : j < x.evs.length := by simpa using hj
        by_cases hij : j = i
        · subst hij
          have : (x.evs.set j e)[j]?.getD zev = e := by simp [hj']
          rw [show ({ x with evs := x.evs.set j e } : Ex).evs = x.evs.set j e from rfl, this]
          refine (he.keep hk).congr fun r hr => ?_
          rw [List.getElem?_drop, setL_get _ _ _ _ (by rw [hl, hE.1]; omega), if_pos (by omega)]
          congr 1; omega
        · have : (x.evs.set i e)[j]?.getD zev = x.evs[j]?.getD zev := by rw [List.getElem?_set_ne (fun e => hij e.symm)]
          rw [show ({ x with evs := x.evs.set i e } : Ex).evs = x.evs.set i e from rfl, this]
          refine ((hin j hj').keep hk).congr fun r hr => ?_
          rw [List.getElem?_drop, List.getElem?_drop, setL_get _ _ _ _ (by rw [hl, hE.1]; omega), if_neg (by omega)]⟩
      bE := h.bE
      F := h.F.kept hgr hnF
      bF := h.bF
      O := h.O.kept hgr hnO
      bO := h.bO
      R :=
        { len := h.R.len
          row := fun j hj => by
            obtain ⟨v, hv, ho⟩ := h.R.row j hj
            exact ⟨v, hv, ho.kept hgr (.inr (own_types hE ho hEI hg))⟩
          bnd := h.R.bnd
          dist := h.R.dist } }
theorem map_set_int (l : List Int) (i : Nat) (z : Int) : (l.map (Value.int .i64)).set i (Value.int .i64 z) = (l.set i z).map (Value.int .i64) := by rw [List.map_set]
/-- From stored anew. -/
theorem Cp.setF (h : Cp w C n0 M tE tI tS x vE vF vO vs) (hEI : tE ≠ tI) (hSI : tS ≠ tI) {i g : Nat} (hi : i < x.src.length) (hg : vF.ownBlock = some g) (z : Int) :
    Cp (w.setCell ⟨g, i, none⟩ (.int .i64 z)) C n0 M tE tI tS { x with src := x.src.set i z } vE vF vO vs := by
  have hgr := grown_setCell w g i (.int .i64 z)
  have hbg := h.bF g hg
  have hng := not_C h hbg
  have hk : ∀ b o u, C b → w.cell? ⟨b, o, none⟩ = some u → (w.setCell ⟨g, i, none⟩ (.int .i64 z)).cell? ⟨b, o, none⟩ = some u := fun b o u hb hc => hgr.cell hc (fun e => by injection e with e; exact hng (e ▸ hb))
  obtain ⟨xs, hE, hin⟩ := h.E
  have hvF : ∃ cap, vF = .slice (some ⟨g, 0, none⟩) x.src.length cap := by
    rcases own_form h.F with ⟨rfl, h0⟩ | ⟨g', c, rfl, hg', _⟩
    · omega
    · rw [hg] at hg'; injection hg' with hg'; subst hg'; exact ⟨c, rfl⟩
  obtain ⟨cap, hvF⟩ := hvF
  have hF' := h.F
  rw [hvF] at hF'
  have hF2 := own_set hF' i (.int .i64 z)
  rw [map_set_int] at hF2
  exact
    { small := ⟨h.small.evs, by simpa using h.small.src, h.small.order, h.small.row⟩
      hC := h.hC, hM := Nat.le_trans h.hM hgr.size
      E := ⟨xs, hE.kept hgr (.inr (own_types h.F hE (fun e => hEI e.symm) hg)), fun j hj => (hin j hj).keep hk⟩
      bE := h.bE
      F := by rw [hvF]; simpa using hF2
      bF := h.bF
      O := h.O.kept hgr (.inr (own_types h.F h.O (fun e => hSI e.symm) hg))
      bO := h.bO
      R :=
        { len := h.R.len
          row := fun j hj => by
            obtain ⟨v, hv, ho⟩ := h.R.row j hj
            exact ⟨v, hv, ho.kept hgr (.inr fun e => (h.R.bnd v (List.mem_of_getElem? hv) g e).2.2 hg)⟩
          bnd := h.R.bnd
          dist := h.R.dist } }
/-- A row of Order stored anew, at one place. -/
theorem Cp.setR (h : Cp w C n0 M tE tI tS x vE vF vO vs) (hEI : tE ≠ tI) (hSI : tS ≠ tI) {k i g : Nat} {v : Value} {l : List Int} (hk : k < x.order.length) (hl : x.order[k]?.getD [] = l) (hv : vs[k]? = some v) (hi : i < l.length) (hg : v.ownBlock = some g) (z : Int) :
    Cp (w.setCell ⟨g, i, none⟩ (.int .i64 z)) C n0 M tE tI tS { x with order := x.order.set k (l.set i z) } vE vF vO vs := by
  have hgr := grown_setCell w g i (.int .i64 z)
  have hbv := h.R.bnd v (List.mem_of_getElem? hv) g hg
  have hng := not_C h ⟨hbv.1, hbv.2.1⟩
  have hkk : ∀ b o u, C b → w.cell? ⟨b, o, none⟩ = some u → (w.setCell ⟨g, i, none⟩ (.int .i64 z)).cell? ⟨b, o, none⟩ = some u := fun b o u hb hc => hgr.cell hc (fun e => by injection e with e; exact hng (e ▸ hb))
  obtain ⟨xs, hE, hin⟩ := h.E
  obtain ⟨v', hv', hrow⟩ := h.R.row k hk
  rw [hv] at hv'; injection hv' with hv'; subst hv'
  rw [hl] at hrow
  have hvf : ∃ cap, v = .slice (some ⟨g, 0, none⟩) l.length cap := by
    rcases own_form hrow with ⟨rfl, h0⟩ | ⟨g', c, rfl, hg', _⟩
    · omega
    · rw [hg] at hg'; injection hg' with hg'; subst hg'; exact ⟨c, rfl⟩
  obtain ⟨cap, hvf⟩ := hvf
  have hr' := hrow
  rw [hvf] at hr'
  have hr2 := own_set hr' i (.int .i64 z)
  rw [map_set_int] at hr2
  exact
    { small := ⟨h.small.evs, h.small.src, by simpa using h.small.order, fun m hm => by
        rcases List.mem_or_eq_of_mem_set hm with hm | rfl
        · exact h.small.row m hm
        · rw [List.length_set]
          have : l ∈ x.order := by rw [← hl, List.getElem?_eq_getElem hk]; exact List.getElem_mem hk
          exact h.small.row l this⟩
      hC := h.hC, hM := Nat.le_trans h.hM hgr.size
      E := ⟨xs, hE.kept hgr (.inr (own_types hrow hE (fun e => hEI e.symm) hg)), fun j hj => (hin j hj).keep hkk⟩
      bE := h.bE
      F := h.F.kept hgr (.inr hbv.2.2)
      bF := h.bF
      O := by simpa using h.O.kept hgr (.inr (own_types hrow h.O (fun e => hSI e.symm) hg))
      bO := h.bO
      R :=
        { len := by simpa using h.R.len
          row := fun j hj => by
            have hj' : j < x.order.length := by simpa using hj
            by_cases hjk : j = k
            · subst hjk
              refine ⟨v, hv, ?_⟩
              have : (x.order.set j (l.set i z))[j]?.getD [] = l.set i z := by simp [hj']
              rw [show ({ x with order := x.order.set j (l.set i z) } : Ex).order = x.order.set j (l.set i z) from rfl, this, hvf]
              simpa using hr2
            · obtain ⟨u, hu, ho⟩ := h.R.row j hj'
              refine ⟨u, hu, ?_⟩
              have : (x.order.set k (l.set i z))[j]?.getD [] = x.order[j]?.getD [] := by rw [List.getElem?_set_ne (fun e => hjk e.symm)]
              rw [show ({ x with order := x.order.set k (l.set i z) } : Ex).order = x.order.set k (l.set i z) from rfl, this]
              exact ho.kept hgr (.inr (h.R.dist k j v u (fun e => hjk e.symm) hv hu g hg))
          bnd := h.R.bnd
          dist := h.R.dist } }
/-- The two first rows alone. -/
theorem Cp.start (hs : Small x) (hC : ∀ b, C b → b < n0) {xs : List Value} (hE : w.ownsRow n0 tE 13 vE x.evs.length xs) (hin : ∀ j, j < x.evs.length → EvIn w C (xs.drop (j * 13)) (x.evs[j]?.getD zev))
    (hF : w.ownsRow n0 tI 1 vF x.src.length (x.src.map (Value.int .i64))) : Cp w C n0 w.heap.size tE tI tS { x with order := [] } vE vF (.slice none 0 0) [] where
  small := ⟨hs.evs, hs.src, by simp, by simp⟩
  hC := fun b hb => .inl (hC b hb)
  hM := Nat.le_refl _
  E := ⟨xs, hE, hin⟩
  bE := hE.lt
  F := hF
  bF := hF.lt
  O := World.ownsRow_nil _ _ _ _
  bO := fun g hg => by simp [Value.ownBlock] at hg
  R := { len := rfl, row := fun j hj => (by simp at hj), bnd := fun v hv => (by cases hv), dist := fun i j v v' _ hi => (by simp at hi) }
/-- One row more. -/
theorem Cp.push {w1 w3 : World} {L : List (List Int)} (h : Cp w C n0 M tE tI tS { x with order := L } vE vF vO vs) (hES : tE ≠ tS) (hSI : tS ≠ tI) (hCn : ∀ b, C b → b < n0) {r : List Int} (hr : r.length ≤ 17592186044416) (hL : L.length + 1 ≤ 17592186044416) {v vO' : Value}
    (ho : w1.ownsRow n0 tI 1 v r.length (r.map (Value.int .i64))) (hg1 : w.grownBy w1 none) (hat : v.ownBlock = none ∨ v.ownBlock = some w.heap.size)
    (ho2 : w3.ownsRow n0 tS 1 vO' (L.length + 1) (vs ++ [v])) (hg2 : (w1.alloc (.cells #[v] tS)).grownBy w3 vO.ownBlock) :
    Cp w3 C n0 w3.heap.size tE tI tS { x with order := L ++ [r] } vE vF vO' (vs ++ [v]) := by
  have h1 := h.kept hg1 (fun g e => by cases e)
  have h2 := h1.alloc (.cells #[v] tS)
  have hg3 : (w1.alloc (.cells #[v] tS)).heap.size ≤ w3.heap.size := hg2.size
  have hs1 : w1.heap.size < w3.heap.size := by simp at hg3; omega
  have hw1 := hg1.size
  have hMw := h.hM
  obtain ⟨xs, hE, hin⟩ := h2.E
  have hO2 := h2.O
  have hOM : ∀ g, vO.ownBlock = some g → g < w3.heap.size := fun g hg => by have := (h.bO g hg).2; omega
  have nE : vE.ownBlock = none ∨ vE.ownBlock ≠ vO.ownBlock := by
    cases hv : vE.ownBlock with
    | none => exact .inl rfl
    | some g => exact .inr fun e => own_types hE hO2 hES hv e.symm
  have nI : ∀ {u : Value} {n : Nat} {ys : List Value}, (w1.alloc (.cells #[v] tS)).ownsRow n0 tI 1 u n ys → u.ownBlock = none ∨ u.ownBlock ≠ vO.ownBlock := by
    intro u n ys hu
    cases hv : u.ownBlock with
    | none => exact .inl rfl
    | some g => exact .inr fun e => own_types hu hO2 (fun e => hSI e.symm) hv e.symm
  have hk : ∀ b o u, C b → (w1.alloc (.cells #[v] tS)).cell? ⟨b, o, none⟩ = some u → w3.cell? ⟨b, o, none⟩ = some u := fun b o u hb hc => hg2.cell hc (fun e => by have := hCn b hb; have := (h.bO b e.symm).1; omega)
  have hvlt : ∀ g, v.ownBlock = some g → n0 ≤ g ∧ M ≤ g ∧ g < w3.heap.size := fun g hg => by
    have hlt := ho.lt g hg
    rcases hat with e | e
    · rw [e] at hg; cases hg
    · rw [e] at hg; injection hg with hg; omega
  exact
    { small := ⟨h.small.evs, h.small.src, by show (L ++ [r]).length ≤ _; simp; omega, fun m hm => by
        rcases List.mem_append.1 hm with hm | hm
        · exact h.small.row m hm
        · obtain rfl : m = r := by simpa using hm
          exact hr⟩
      hC := fun b hb => .inl (hCn b hb), hM := Nat.le_refl _
      E := ⟨xs, hE.kept hg2 nE, fun j hj => (hin j hj).keep hk⟩
      bE := fun g hg => ⟨(h.bE g hg).1, by have := (h.bE g hg).2; omega⟩
      F := h2.F.kept hg2 (nI h2.F)
      bF := fun g hg => ⟨(h.bF g hg).1, by have := (h.bF g hg).2; omega⟩
      O := by show w3.ownsRow n0 tS 1 vO' (L ++ [r]).length (vs ++ [v]); simpa using ho2
      bO := fun g hg => ho2.lt g hg
      R :=
        { len := by show (vs ++ [v]).length = (L ++ [r]).length; have := h.R.len; simp at this ⊢; omega
          row := fun j hj => by
            have hj' : j < L.length + 1 := by simpa using hj
            have hlen : vs.length = L.length := h.R.len
            show ∃ u, (vs ++ [v])[j]? = some u ∧ w3.ownsRow n0 tI 1 u ((L ++ [r])[j]?.getD []).length (((L ++ [r])[j]?.getD []).map (Value.int .i64))
            by_cases hjL : j < L.length
            · obtain ⟨u, hu, hou⟩ := h2.R.row j hjL
              refine ⟨u, by rw [List.getElem?_append_left (by omega)]; exact hu, ?_⟩
              rw [List.getElem?_append_left hjL]
              exact hou.kept hg2 (nI hou)
            · obtain rfl : j = L.length := by omega
              refine ⟨v, by rw [← hlen]; simp, ?_⟩
              rw [show (L ++ [r])[L.length]?.getD [] = r by simp]
              exact (ho.alloc _).kept hg2 (nI (ho.alloc _))
          bnd := fun u hu g hg => by
            rcases List.mem_append.1 hu with hu | hu
            · have := h.R.bnd u hu g hg
              exact ⟨this.1, by omega, this.2.2⟩
            · obtain rfl : u = v := by simpa using hu
              have := hvlt g hg
              refine ⟨this.1, this.2.2, fun e => ?_⟩
              have := (h.bF g e).2
              omega
          dist := fun i j u u' hij hi hj g hg hg' => by
            have hlen : vs.length = L.length := h.R.len
            have key : ∀ {i : Nat} {u : Value}, (vs ++ [v])[i]? = some u → (vs[i]? = some u ∧ u ∈ vs) ∨ (i = vs.length ∧ u = v) := fun {i u} hi => by
              by_cases hil : i < vs.length
              · rw [List.getElem?_append_left hil] at hi
                exact .inl ⟨hi, List.mem_of_getElem? hi⟩
              · have hi2 : i < (vs ++ [v]).length := (List.getElem?_eq_some_iff.1 hi).1
                have : i = vs.length := by simp at hi2; omega
                subst this
                exact .inr ⟨rfl, by simpa using hi.symm⟩
            rcases key hi with ⟨a1, a2⟩ | ⟨a1, rfl⟩ <;> rcases key hj with ⟨b1, b2⟩ | ⟨b1, rfl⟩
            · exact h.R.dist i j u u' hij a1 b1 g hg hg'
            · have := h.R.bnd u a2 g hg; have := hvlt g hg'; omega
            · have := h.R.bnd u' b2 g hg'; have := hvlt g hg; omega
            · omega } }
end
end Go.Proofs.YtacnbdnmkmpldaaGreat.Q
