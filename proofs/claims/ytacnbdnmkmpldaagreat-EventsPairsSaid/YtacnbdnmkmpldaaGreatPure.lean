/- The plain words and laws of layer 6, no program in sight: events, executions, circles, pairs. -/
/- The plain words of layer 6: events, executions, whether one may be, its relations; no program in sight. -/
section
namespace Go.Proofs.YtacnbdnmkmpldaaGreat.Q

/-! ### Events and executions -/
structure Ev where
  hart : Int
  kind : Int
  addr : Int
  value : Int
  readv : Int
  aq : Bool
  rl : Bool
  pred : Int
  succ : Int
  resv : Bool
  addrs : List Int
  datas : List Int
  ctrls : List Int

def zev : Ev := ⟨0, 0, 0, 0, 0, false, false, 0, 0, false, [], [], []⟩

structure Ex where
  evs : List Ev
  src : List Int
  order : List (List Int)

def stores (e : Ev) : Bool := e.kind == 2 || e.kind == 3 || e.kind == 5
def loads (e : Ev) : Bool := e.kind == 1 || e.kind == 3

def ev (x : Ex) (i : Nat) : Ev := x.evs.getD i zev
def evI (x : Ex) (i : Int) : Ev := x.evs.getD i.toNat zev

/-! ### What Go's kinds hold -/
def i64R (n : Int) : Prop := -9223372036854775808 ≤ n ∧ n ≤ 9223372036854775807
def u32R (n : Int) : Prop := 0 ≤ n ∧ n ≤ 4294967295
structure EvOk (e : Ev) : Prop where
  hart : i64R e.hart
  kind : i64R e.kind
  addr : u32R e.addr
  value : u32R e.value
  readv : u32R e.readv
  pred : i64R e.pred
  succ : i64R e.succ
  addrs : ∀ d ∈ e.addrs, i64R d
  datas : ∀ d ∈ e.datas, i64R d
  ctrls : ∀ d ∈ e.ctrls, i64R d
structure ExOk (x : Ex) : Prop where
  evs : ∀ e ∈ x.evs, EvOk e
  src : ∀ f ∈ x.src, i64R f
  order : ∀ l ∈ x.order, ∀ d ∈ l, i64R d
theorem ExOk.ev {x : Ex} (h : ExOk x) (n : Nat) (hn : n < x.evs.length) : EvOk (x.evs[n]?.getD zev) := by
  rw [List.getElem?_eq_getElem hn]; exact h.evs _ (List.getElem_mem _)

/-! ### Whether an execution may be -/
def fenceZ (e : Ev) : Bool := e.pred == 0 && e.succ == 0
def bareB (e : Ev) : Bool :=
  if e.kind = 5 then e.hart == -1 && (e.readv == 0 && (e.addrs.isEmpty && (e.datas.isEmpty && (e.ctrls.isEmpty && (fenceZ e && (!e.aq && (!e.rl && !e.resv)))))))
  else if e.kind = 1 then e.value == 0 && (fenceZ e && e.datas.isEmpty)
  else if e.kind = 2 then e.readv == 0 && fenceZ e
  else if e.kind = 3 then fenceZ e && !e.resv
  else if e.kind = 4 then e.addr == 0 && (e.value == 0 && (e.readv == 0 && (!e.aq && (!e.rl && (!e.resv && (e.addrs.isEmpty && (e.datas.isEmpty && (decide (0 ≤ e.pred) && (decide (e.pred ≤ 3) && (decide (0 ≤ e.succ) && decide (e.succ ≤ 3)))))))))))
  else false

theorem isEmpty_len {α : Type} (l : List α) : l.isEmpty = decide (l.length = 0) := by cases l <;> simp
theorem bare5 (h a v r p s : Int) (aq rl rs : Bool) (la ld lc : List Int) : bareB ⟨h, 5, a, v, r, aq, rl, p, s, rs, la, ld, lc⟩ =
    (h == -1 && r == 0 && !decide (0 < (la.length : Int) + ld.length + lc.length) && (!p != 0 && !s != 0) && (!aq && !rl && !rs)) := by
  rw [Bool.eq_iff_iff]; simp only [bareB, fenceZ, isEmpty_len]
  cases aq <;> cases rl <;> cases rs <;> simp [-List.length_eq_zero_iff]
  omega
theorem bare1 (h a v r p s : Int) (aq rl rs : Bool) (la ld lc : List Int) : bareB ⟨h, 1, a, v, r, aq, rl, p, s, rs, la, ld, lc⟩ =
    (v == 0 && (!p != 0 && !s != 0) && (ld.length : Int) == 0) := by
  rw [Bool.eq_iff_iff]; simp only [bareB, fenceZ, isEmpty_len]; simp [-List.length_eq_zero_iff]; omega
theorem bare2 (h a v r p s : Int) (aq rl rs : Bool) (la ld lc : List Int) : bareB ⟨h, 2, a, v, r, aq, rl, p, s, rs, la, ld, lc⟩ =
    (r == 0 && (!p != 0 && !s != 0)) := by
  rw [Bool.eq_iff_iff]; simp only [bareB, fenceZ, isEmpty_len]; simp
theorem bare3 (h a v r p s : Int) (aq rl rs : Bool) (la ld lc : List Int) : bareB ⟨h, 3, a, v, r, aq, rl, p, s, rs, la, ld, lc⟩ =
    (!p != 0 && !s != 0 && !rs) := by
  rw [Bool.eq_iff_iff]; simp only [bareB, fenceZ, isEmpty_len]; simp
theorem bare4 (h a v r p s : Int) (aq rl rs : Bool) (la ld lc : List Int) : bareB ⟨h, 4, a, v, r, aq, rl, p, s, rs, la, ld, lc⟩ =
    (a == 0 && v == 0 && r == 0 && (!aq && !rl && !rs) && (la.length : Int) + ld.length == 0 && decide (0 ≤ p) && decide (p ≤ 3) && decide (0 ≤ s) && decide (s ≤ 3)) := by
  rw [Bool.eq_iff_iff]; simp only [bareB, fenceZ, isEmpty_len]
  cases aq <;> cases rl <;> cases rs <;> simp [-List.length_eq_zero_iff]
  omega

/-- One number of a list of what event n hangs on; p: the number ahead of it in the list, if any. -/
def hangOk (x : Ex) (n : Nat) (p : Option Int) (d : Int) : Bool :=
  decide (0 ≤ d) && (decide (d < n) && ((match p with | none => true | some q => decide (q < d)) && ((evI x d).hart == (ev x n).hart && loads (evI x d))))
def hangs1 (x : Ex) (n : Nat) : Option Int → List Int → Bool
  | _, [] => true
  | p, d :: l => hangOk x n p d && hangs1 x n (some d) l
def hangsB (x : Ex) (n : Nat) (l : List Int) : Bool := hangs1 x n none l

/-- a into a rising list without repeats. -/
def ins (a : Int) : List Int → List Int
  | [] => [a]
  | b :: l => if b < a then b :: ins a l else if b = a then b :: l else a :: b :: l
def addrsOf (l : List Ev) : List Int := l.foldl (fun acc e => if e.kind = 4 then acc else ins e.addr acc) []

def eventB (x : Ex) (n k : Nat) (addrs : List Int) : Bool :=
  bareB (ev x n) && ((ev x n).addr % 4 == 0 && (hangsB x n (ev x n).addrs && (hangsB x n (ev x n).datas && (hangsB x n (ev x n).ctrls &&
    (if n < k then (ev x n).kind == 5 && (ev x n).addr == addrs.getD n 0
     else (ev x n).kind != 5 && (decide (0 ≤ (ev x n).hart) && (decide ((ev x n).hart < 4) && (n == k || decide ((ev x (n - 1)).hart ≤ (ev x n).hart)))))))))

def srcOk (x : Ex) (n : Nat) (f : Int) : Bool :=
  if loads (ev x n) then f != n && (decide (0 ≤ f) && (decide (f < x.evs.length) && (stores (evI x f) && ((evI x f).addr == (ev x n).addr && (evI x f).value == (ev x n).readv))))
  else f == -1
def srcB (x : Ex) : Bool := x.src.length == x.evs.length && (List.range x.evs.length).all fun n => srcOk x n (x.src.getD n 0)

/-- The events that store at an address, rising. -/
def storesAt (x : Ex) (a : Int) : List Int :=
  ((List.range x.evs.length).filter fun n => stores (ev x n) && (ev x n).addr == a).map fun n : Nat => (n : Int)
def leI (a b : Int) : Bool := decide (a ≤ b)
def orderOk (x : Ex) (addrs : List Int) (i : Nat) (l : List Int) : Bool :=
  !l.isEmpty && (l.getD 0 0 == i && l.mergeSort leI == storesAt x (addrs.getD i 0))
def orderB (x : Ex) (addrs : List Int) : Bool :=
  x.order.length == addrs.length && (List.range addrs.length).all fun i => orderOk x addrs i (x.order.getD i [])

def checkV (x : Ex) : Int :=
  if 64 < x.evs.length then 3
  else if !((List.range x.evs.length).all fun n => eventB x n (addrsOf x.evs).length (addrsOf x.evs)) then 160
  else if !srcB x then 161
  else if !orderB x (addrsOf x.evs) then 162
  else 0

end Go.Proofs.YtacnbdnmkmpldaaGreat.Q
end

/- Circles of graphs, in plain words: a graph has none just if its places have ranks that rise along each arrow; the search by three colours and the taking away of places find that out. -/
section
namespace Go.Proofs.YtacnbdnmkmpldaaGreat.Q

/-- No circle: ranks that rise along each arrow. -/
def Acyc (l : List (Int × Int)) : Prop := ∃ rank : Int → Nat, ∀ p ∈ l, rank p.1 < rank p.2

/-- A way of one arrow or more. -/
inductive Way (l : List (Int × Int)) : Int → Int → Prop
  | one {a b : Int} : (a, b) ∈ l → Way l a b
  | snoc {a b c : Int} : Way l a b → (b, c) ∈ l → Way l a c

theorem Way.rank {l : List (Int × Int)} {rank : Int → Nat} (h : ∀ p ∈ l, rank p.1 < rank p.2) {a b : Int} (hw : Way l a b) : rank a < rank b := by
  induction hw with
  | one h1 => exact h _ h1
  | snoc _ h2 ih => exact Nat.lt_trans ih (h _ h2)
theorem Way.not_acyc {l : List (Int × Int)} {a : Int} (hw : Way l a a) : ¬ Acyc l := fun ⟨_, h⟩ => Nat.lt_irrefl _ (hw.rank h)

/-! ### The search by colours: 1: under way, 2: none behind it -/
def upd (S : Int → Int) (a v : Int) : Int → Int := fun x => if x = a then v else S x
theorem upd_same (S : Int → Int) (a v : Int) : upd S a v a = v := by simp [upd]
theorem upd_other {S : Int → Int} {a v x : Int} (h : x ≠ a) : upd S a v x = S x := by simp [upd, h]

def runL (g : (Int → Int) → Int → Bool × (Int → Int)) : (Int → Int) → List Int → Bool × (Int → Int)
  | S, [] => (true, S)
  | S, b :: bs => if (g S b).1 = true then runL g (g S b).2 bs else (false, (g S b).2)

def dfs (to : Int → List Int) : Nat → (Int → Int) → Int → Bool × (Int → Int)
  | 0, S, _ => (false, S)
  | f + 1, S, a =>
    if 0 < S a then (S a == 2, S)
    else if (runL (dfs to f) (upd S a 1) (to a)).1 = true then (true, upd (runL (dfs to f) (upd S a 1) (to a)).2 a 2)
    else (false, (runL (dfs to f) (upd S a 1) (to a)).2)

/-- The places, one behind the other. -/
def dfsAll (to : Int → List Int) (f : Nat) (n : Nat) : Bool × (Int → Int) := runL (dfs to f) (fun _ => 0) ((List.range n).map fun i : Nat => (i : Int))

/-- The values are colours. -/
def Col (S : Int → Int) : Prop := ∀ x, 0 ≤ S x ∧ S x ≤ 2
theorem Col.upd {S : Int → Int} (h : Col S) {a v : Int} (h0 : 0 ≤ v) (h2 : v ≤ 2) : Col (upd S a v) := fun x => by
  unfold Q.upd; split
  · exact ⟨h0, h2⟩
  · exact h x

/-- What a search keeps: colours; no place that was seen is unseen. -/
def Keeps (S S' : Int → Int) : Prop := Col S' ∧ ∀ x, 0 < S x → 0 < S' x
theorem Keeps.refl {S : Int → Int} (h : Col S) : Keeps S S := ⟨h, fun _ hx => hx⟩
theorem Keeps.trans {S S' S'' : Int → Int} (h : Keeps S S') (h' : Keeps S' S'') : Keeps S S'' := ⟨h'.1, fun x hx => h'.2 x (h.2 x hx)⟩

theorem runL_keeps {g : (Int → Int) → Int → Bool × (Int → Int)} (hg : ∀ S b, Col S → Keeps S (g S b).2) : ∀ (bs : List Int) (S : Int → Int), Col S → Keeps S (runL g S bs).2
  | [], S, h => Keeps.refl h
  | b :: bs, S, h => by
    simp only [runL]
    split
    · exact (hg S b h).trans (runL_keeps hg bs _ (hg S b h).1)
    · exact hg S b h
theorem dfs_keeps (to : Int → List Int) : ∀ (f : Nat) (S : Int → Int) (a : Int), Col S → Keeps S (dfs to f S a).2
  | 0, S, _, h => Keeps.refl h
  | f + 1, S, a, h => by
    have h1 : Col (upd S a 1) := h.upd (by omega) (by omega)
    have hk := runL_keeps (fun S b => dfs_keeps to f S b) (to a) (upd S a 1) h1
    have h01 : Keeps S (upd S a 1) := ⟨h1, fun x hx => by unfold upd; split <;> omega⟩
    simp only [dfs]
    split
    · exact Keeps.refl h
    · split
      · refine ⟨hk.1.upd (by omega) (by omega), fun x hx => ?_⟩
        have := hk.2 x (h01.2 x hx)
        by_cases hxa : x = a
        · subst hxa; show 0 < upd _ x 2 x; rw [upd_same]; omega
        · show 0 < upd _ a 2 x; rw [upd_other hxa]; exact this
      · exact h01.trans hk

/-- How many of the first n places are unseen. -/
def whites (n : Nat) (S : Int → Int) : Nat := ((List.range n).filter fun i : Nat => decide (S (i : Int) ≤ 0)).length
theorem whites_le (n : Nat) (S : Int → Int) : whites n S ≤ n := by
  unfold whites; exact Nat.le_trans (List.length_filter_le _ _) (by simp)
theorem filter_length_le {α : Type} {p q : α → Bool} (h : ∀ x, q x = true → p x = true) : ∀ l : List α, (l.filter q).length ≤ (l.filter p).length
  | [] => Nat.le_refl _
  | x :: l => by
    have ih := filter_length_le h l
    by_cases hq : q x = true
    · simp only [List.filter_cons, hq, h x hq, if_true, List.length_cons]; omega
    · by_cases hp : p x = true
      · simp only [List.filter_cons, hq, hp, if_true, List.length_cons]; simp; omega
      · simp only [List.filter_cons, hq, hp]; simpa using ih
theorem filter_length_lt {α : Type} {p q : α → Bool} (h : ∀ x, q x = true → p x = true) : ∀ (l : List α) (x : α), x ∈ l → p x = true → q x = false → (l.filter q).length < (l.filter p).length
  | [], _, hx, _, _ => by simp at hx
  | y :: l, x, hx, hp, hq => by
    rcases List.mem_cons.1 hx with rfl | hx
    · have := filter_length_le h l
      simp only [List.filter_cons, hp, hq, if_true, List.length_cons]; simp; omega
    · have ih := filter_length_lt h l x hx hp hq
      have hy := h y
      by_cases hqy : q y = true
      · simp only [List.filter_cons, hqy, hy hqy, if_true, List.length_cons]; omega
      · by_cases hpy : p y = true
        · simp only [List.filter_cons, hqy, hpy, if_true, List.length_cons]; simp; omega
        · simp only [List.filter_cons, hqy, hpy]; simpa using ih
theorem whites_mono {n : Nat} {S S' : Int → Int} (h : ∀ x, 0 < S x → 0 < S' x) : whites n S' ≤ whites n S := by
  refine filter_length_le (fun i hi => ?_) _
  simp only [decide_eq_true_eq] at hi ⊢
  have := h i
  omega
theorem whites_gray {n : Nat} {S : Int → Int} {a : Int} (h0 : 0 ≤ a) (hn : a < n) (hs : S a ≤ 0) : whites n (upd S a 1) < whites n S := by
  refine filter_length_lt (fun i hi => ?_) _ a.toNat (by simp; omega) ?_ ?_
  · simp only [decide_eq_true_eq] at hi ⊢
    unfold upd at hi; split at hi <;> omega
  · simp only [decide_eq_true_eq]; rw [Int.toNat_of_nonneg h0]; exact hs
  · simp only [decide_eq_false_iff_not]; rw [Int.toNat_of_nonneg h0, upd_same]; omega

/-! #### what it finds -/
section
variable {l : List (Int × Int)} {to : Int → List Int}

/-- The places that are done have ranks that fall along arrows, and lead to such alone. -/
def Done (l : List (Int × Int)) (S : Int → Int) : Prop := ∃ (rk : Int → Nat) (N : Nat), (∀ u, S u = 2 → rk u < N) ∧ ∀ u v, (u, v) ∈ l → S u = 2 → S v = 2 ∧ rk v < rk u

structure Went (l : List (Int × Int)) (S S' : Int → Int) : Prop where
  done : Done l S'
  two : ∀ v, S v = 2 → S' v = 2
  one : ∀ v, S' v = 1 ↔ S v = 1

theorem Went.trans {S S' S'' : Int → Int} (h : Went l S S') (h' : Went l S' S'') : Went l S S'' := ⟨h'.done, fun v hv => h'.two v (h.two v hv), fun v => (h'.one v).trans (h.one v)⟩

theorem runL_true {g : (Int → Int) → Int → Bool × (Int → Int)} (hk : ∀ S b, Col S → Keeps S (g S b).2) (hg : ∀ S b, Col S → Done l S → (g S b).1 = true → Went l S (g S b).2 ∧ (g S b).2 b = 2) :
    ∀ (bs : List Int) (S : Int → Int), Col S → Done l S → (runL g S bs).1 = true → Went l S (runL g S bs).2 ∧ ∀ b ∈ bs, (runL g S bs).2 b = 2
  | [], S, _, hd, _ => ⟨⟨hd, fun _ h => h, fun _ => Iff.rfl⟩, by simp⟩
  | b :: bs, S, hc, hd, ht => by
    simp only [runL] at ht ⊢
    split at ht
    · rename_i hb
      rw [if_pos hb]
      obtain ⟨h1, h2⟩ := hg S b hc hd hb
      obtain ⟨h3, h4⟩ := runL_true hk hg bs _ (hk S b hc).1 h1.done ht
      refine ⟨h1.trans h3, fun c hc' => ?_⟩
      rcases List.mem_cons.1 hc' with rfl | hc'
      · exact h3.two _ h2
      · exact h4 c hc'
    · cases ht

theorem dfs_true (hto : ∀ a b, (a, b) ∈ l → b ∈ to a) : ∀ (f : Nat) (S : Int → Int) (a : Int), Col S → Done l S → (dfs to f S a).1 = true → Went l S (dfs to f S a).2 ∧ (dfs to f S a).2 a = 2
  | 0, S, a, _, _, ht => by simp [dfs] at ht
  | f + 1, S, a, hc, hd, ht => by
    simp only [dfs] at ht ⊢
    by_cases h0 : 0 < S a
    · rw [if_pos h0] at ht ⊢
      exact ⟨⟨hd, fun _ h => h, fun _ => Iff.rfl⟩, by simpa using ht⟩
    · rw [if_neg h0] at ht ⊢
      have hsa : S a = 0 := by have := (hc a).1; omega
      have hc1 : Col (upd S a 1) := hc.upd (by omega) (by omega)
      have hd1 : Done l (upd S a 1) := by
        obtain ⟨rk, N, h1, h2⟩ := hd
        have ne : ∀ u, upd S a 1 u = 2 → u ≠ a ∧ S u = 2 := fun u hu => by
          unfold upd at hu; split at hu
          · omega
          · exact ⟨‹_›, hu⟩
        refine ⟨rk, N, fun u hu => h1 u (ne u hu).2, fun u v he hu => ?_⟩
        obtain ⟨hua, hu⟩ := ne u hu
        obtain ⟨hv, hr⟩ := h2 u v he hu
        refine ⟨?_, hr⟩
        rw [upd_other (by rintro rfl; omega)]; exact hv
      split at ht
      · rename_i hr
        rw [if_pos hr]
        obtain ⟨h3, h4⟩ := runL_true (fun S b => dfs_keeps to f S b) (fun S b => dfs_true hto f S b) (to a) _ hc1 hd1 hr
        generalize (runL (dfs to f) (upd S a 1) (to a)).2 = S2 at h3 h4 ⊢
        have ha1 : S2 a = 1 := (h3.one a).2 (upd_same _ _ _)
        show Went l S (upd S2 a 2) ∧ upd S2 a 2 a = 2
        refine ⟨⟨?_, fun v hv => ?_, fun v => ?_⟩, upd_same _ _ _⟩
        · obtain ⟨rk, N, h1, h2⟩ := h3.done
          refine ⟨fun u => if u = a then N else rk u, N + 1, fun u hu => ?_, fun u v he hu => ?_⟩
          · by_cases hua : u = a
            · simp [hua]
            · rw [upd_other hua] at hu
              have := h1 u hu
              simp [hua]; omega
          · by_cases hua : u = a
            · subst hua
              have hv := h4 v (hto _ _ he)
              have hva : v ≠ u := by rintro rfl; omega
              refine ⟨by rw [upd_other hva]; exact hv, ?_⟩
              simp [hva]; exact h1 v hv
            · rw [upd_other hua] at hu
              obtain ⟨hv, hr2⟩ := h2 u v he hu
              have hva : v ≠ a := by rintro rfl; omega
              refine ⟨by rw [upd_other hva]; exact hv, ?_⟩
              simp [hva, hua]; exact hr2
        · by_cases hva : v = a
          · subst hva; omega
          · rw [upd_other hva]; exact h3.two v (by rw [upd_other hva]; exact hv)
        · by_cases hva : v = a
          · subst hva; rw [upd_same]; omega
          · rw [upd_other hva, h3.one v, upd_other hva]
      · cases ht

theorem runL_false {g : (Int → Int) → Int → Bool × (Int → Int)} (hk : ∀ S b, Col S → Keeps S (g S b).2) (hone : ∀ S b, Col S → (g S b).1 = true → ∀ v, (g S b).2 v = 1 → S v = 1) {n : Nat} {f : Nat}
    (hg : ∀ S b, Col S → whites n S < f → (∃ a, (a, b) ∈ l) ∨ True → 0 ≤ b → b < n → (∀ v, S v = 1 → Way l v b) → (g S b).1 = false → ∃ v, Way l v v) :
    ∀ (bs : List Int) (S : Int → Int), Col S → whites n S < f → (∀ b ∈ bs, 0 ≤ b ∧ b < n) → (∀ b ∈ bs, ∀ v, S v = 1 → Way l v b) → (runL g S bs).1 = false → ∃ v, Way l v v
  | [], S, _, _, _, _, h => by simp [runL] at h
  | b :: bs, S, hc, hw, hb, hv, h => by
    simp only [runL] at h
    split at h
    · rename_i ht
      refine runL_false hk hone hg bs _ (hk S b hc).1 (Nat.lt_of_le_of_lt (whites_mono (hk S b hc).2) hw) (fun c hc' => hb c (List.mem_cons_of_mem _ hc')) (fun c hc' v hv1 => ?_) h
      exact hv c (List.mem_cons_of_mem _ hc') v (hone S b hc ht v hv1)
    · rename_i ht
      exact hg S b hc hw (.inr trivial) (hb b List.mem_cons_self).1 (hb b List.mem_cons_self).2 (hv b List.mem_cons_self) (by simpa using ht)

theorem runL_one {g : (Int → Int) → Int → Bool × (Int → Int)} (hk : ∀ S b, Col S → Keeps S (g S b).2) (hone : ∀ S b, Col S → (g S b).1 = true → ∀ v, (g S b).2 v = 1 → S v = 1) :
    ∀ (bs : List Int) (S : Int → Int), Col S → (runL g S bs).1 = true → ∀ v, (runL g S bs).2 v = 1 → S v = 1
  | [], S, _, _, v, hv => hv
  | b :: bs, S, hc, h, v, hv => by
    simp only [runL] at h hv
    split at h
    · rename_i ht
      rw [if_pos ht] at hv
      exact hone S b hc ht v (runL_one hk hone bs _ (hk S b hc).1 h v hv)
    · cases h
theorem dfs_one (to : Int → List Int) : ∀ (f : Nat) (S : Int → Int) (a : Int), Col S → (dfs to f S a).1 = true → ∀ v, (dfs to f S a).2 v = 1 → S v = 1
  | 0, S, a, _, h, v, hv => by simp [dfs] at h
  | f + 1, S, a, hc, h, v, hv => by
    simp only [dfs] at h hv
    by_cases h0 : 0 < S a
    · rw [if_pos h0] at hv; exact hv
    · rw [if_neg h0] at h hv
      split at h
      · rename_i hr
        rw [if_pos hr] at hv
        have hv : upd (runL (dfs to f) (upd S a 1) (to a)).2 a 2 v = 1 := hv
        by_cases hva : v = a
        · subst hva; rw [upd_same] at hv; omega
        · have hv : (runL (dfs to f) (upd S a 1) (to a)).2 v = 1 := by rwa [upd_other (S := (runL (dfs to f) (upd S a 1) (to a)).2) hva] at hv
          have := runL_one (fun S b => dfs_keeps to f S b) (fun S b => dfs_one to f S b) (to a) _ (hc.upd (by omega) (by omega)) hr v hv
          rwa [upd_other hva] at this
      · cases h

theorem dfs_false (hto : ∀ a b, b ∈ to a → (a, b) ∈ l) {n : Nat} (hin : ∀ p ∈ l, 0 ≤ p.2 ∧ p.2 < n) : ∀ (f : Nat) (S : Int → Int) (a : Int), Col S → whites n S < f → 0 ≤ a → a < n → (∀ v, S v = 1 → Way l v a) →
    (dfs to f S a).1 = false → ∃ v, Way l v v
  | 0, S, a, _, hw, _, _, _, _ => by omega
  | f + 1, S, a, hc, hw, h0a, han, hgray, h => by
    simp only [dfs] at h
    by_cases h0 : 0 < S a
    · rw [if_pos h0] at h
      have : S a = 1 := by
        have := (hc a).2
        have h2 : S a ≠ 2 := by simpa using h
        omega
      exact ⟨a, hgray a this⟩
    · rw [if_neg h0] at h
      split at h
      · cases h
      · rename_i hr
        refine runL_false (f := f) (fun S b => dfs_keeps to f S b) (fun S b => dfs_one to f S b) (n := n) (fun S b hc hw _ hb0 hbn hg hf => dfs_false hto hin f S b hc hw hb0 hbn hg hf)
          (to a) (upd S a 1) (hc.upd (by omega) (by omega)) (by have := whites_gray h0a han (by omega : S a ≤ 0); omega) (fun b hb => hin _ (hto a b hb)) (fun b hb v hv => ?_) (by simpa using hr)
        by_cases hva : v = a
        · subst hva; exact .one (hto _ _ hb)
        · rw [upd_other hva] at hv; exact .snoc (hgray v hv) (hto _ _ hb)

theorem dfsAll_iff (hto : ∀ a b, b ∈ to a ↔ (a, b) ∈ l) {n f : Nat} (hf : n < f) (hin : ∀ p ∈ l, (0 ≤ p.1 ∧ p.1 < n) ∧ 0 ≤ p.2 ∧ p.2 < n) : (dfsAll to f n).1 = true ↔ Acyc l := by
  have hc0 : Col (fun _ => 0) := fun _ => ⟨Int.le_refl _, by show (0 : Int) ≤ 2; omega⟩
  have hw : whites n (fun _ => 0) < f := Nat.lt_of_le_of_lt (whites_le _ _) hf
  constructor
  · intro h
    obtain ⟨hW, h2⟩ := runL_true (l := l) (fun S b => dfs_keeps to f S b) (fun S b => dfs_true (fun a b h => (hto a b).2 h) f S b) _ _ hc0 ⟨fun _ => 0, 0, fun u hu => by simp at hu, fun u v _ hu => by simp at hu⟩ h
    obtain ⟨rk, N, hN, hr⟩ := hW.done
    refine ⟨fun u => N - rk u, fun p hp => ?_⟩
    have hin' := hin p hp
    have mem : ∀ u : Int, 0 ≤ u → u < n → u ∈ (List.range n).map fun i : Nat => (i : Int) := fun u h0 hn => List.mem_map.2 ⟨u.toNat, by simp; omega, by omega⟩
    have b1 := h2 p.1 (mem _ hin'.1.1 hin'.1.2)
    have b2 := h2 p.2 (mem _ hin'.2.1 hin'.2.2)
    have := (hr p.1 p.2 hp b1).2
    have := hN _ b1
    have := hN _ b2
    show N - rk p.1 < N - rk p.2
    omega
  · intro hA
    cases h : (dfsAll to f n).1 with
    | true => rfl
    | false =>
      obtain ⟨v, hv⟩ := runL_false (l := l) (f := f) (fun S b => dfs_keeps to f S b) (fun S b => dfs_one to f S b) (n := n)
        (fun S b hc hw _ hb0 hbn hg hf => dfs_false (fun a b h => (hto a b).1 h) (fun p hp => (hin p hp).2) f S b hc hw hb0 hbn hg hf)
        _ _ hc0 hw (fun b hb => by obtain ⟨i, hi, rfl⟩ := List.mem_map.1 hb; simp at hi; omega) (fun b _ v hv => by simp at hv) h
      exact absurd hA hv.not_acyc
end
end Go.Proofs.YtacnbdnmkmpldaaGreat.Q
end

/- The taking away of places that nothing leads to: some are left just if there is a circle. -/
section
namespace Go.Proofs.YtacnbdnmkmpldaaGreat.Q

def ledB (l : List (Int × Int)) (g : Int → Bool) (p : Int) : Bool := l.any fun q => q.2 == p && !g q.1
def peel1 (l : List (Int × Int)) (g : Int → Bool) (p : Int) : Int → Bool := if ledB l g p = true then g else fun x => if x = p then true else g x
def peelTo (l : List (Int × Int)) (g : Int → Bool) : Nat → Int → Bool
  | 0 => g
  | k + 1 => peel1 l (peelTo l g k) (k : Int)
def peelR (l : List (Int × Int)) (n : Nat) : Nat → Int → Bool
  | 0 => fun _ => false
  | r + 1 => peelTo l (peelR l n r) n
def circleV (n : Nat) (l : List (Int × Int)) : Bool := (List.range n).any fun p => !peelR l n n (p : Int)

theorem ledB_false {l : List (Int × Int)} {g : Int → Bool} {p : Int} : ledB l g p = false ↔ ∀ u, (u, p) ∈ l → g u = true := by
  rw [← Bool.not_eq_true]
  simp only [ledB, List.any_eq_true, Bool.and_eq_true, beq_iff_eq, Bool.not_eq_true', not_exists, not_and, Bool.not_eq_false]
  constructor
  · intro h u hu; exact h (u, p) hu rfl
  · rintro h ⟨u, v⟩ hq rfl; exact h u hq
theorem peel1_mono {l : List (Int × Int)} {g : Int → Bool} {p x : Int} (h : g x = true) : peel1 l g p x = true := by
  unfold peel1; split
  · exact h
  · show (if x = p then true else g x) = true
    split
    · rfl
    · exact h
theorem peel1_at {l : List (Int × Int)} {g : Int → Bool} {p : Int} (h : ledB l g p = false) : peel1 l g p p = true := by
  unfold peel1; rw [if_neg (by simp [h])]; simp
theorem peelTo_mono {l : List (Int × Int)} {g : Int → Bool} {x : Int} (h : g x = true) : ∀ k, peelTo l g k x = true
  | 0 => h
  | k + 1 => peel1_mono (peelTo_mono h k)
theorem peelTo_ge {l : List (Int × Int)} {g : Int → Bool} {x : Int} {j : Nat} (h : peelTo l g j x = true) : ∀ k, j ≤ k → peelTo l g k x = true
  | 0, hk => by obtain rfl : j = 0 := by omega
                exact h
  | k + 1, hk => by
    by_cases e : j = k + 1
    · subst e; exact h
    · exact peel1_mono (peelTo_ge h k (by omega))
theorem peelTo_gone {l : List (Int × Int)} {g : Int → Bool} {p k : Nat} (hp : p < k) (h : ∀ u, (u, (p : Int)) ∈ l → g u = true) : peelTo l g k (p : Int) = true :=
  peelTo_ge (j := p + 1) (peel1_at (ledB_false.2 fun u hu => peelTo_mono (h u hu) p)) k hp

/-- Ranks of what is gone. -/
def GoneOk (l : List (Int × Int)) (g : Int → Bool) : Prop := ∃ (rk : Int → Nat) (N : Nat), (∀ u, g u = true → rk u < N) ∧ ∀ u v, (u, v) ∈ l → g v = true → g u = true ∧ rk u < rk v
theorem peel1_ok {l : List (Int × Int)} {g : Int → Bool} (h : GoneOk l g) (p : Int) : GoneOk l (peel1 l g p) := by
  unfold peel1
  split
  · exact h
  · rename_i hl
    have hl := ledB_false.1 (by simpa using hl)
    by_cases hp : g p = true
    · have e : (fun x => if x = p then true else g x) = g := by
        funext x; split
        · subst_vars; exact hp.symm
        · rfl
      rw [e]; exact h
    · obtain ⟨rk, N, h1, h2⟩ := h
      refine ⟨fun u => if u = p then N else rk u, N + 1, fun u hu => ?_, fun u v he hv => ?_⟩
      · by_cases hup : u = p
        · simp [hup]
        · simp only [hup, if_false] at hu ⊢
          have := h1 u hu; omega
      · by_cases hvp : v = p
        · subst hvp
          have hg := hl u he
          have hup : u ≠ v := by rintro rfl; exact hp hg
          simp only [hup, if_false, if_true]
          exact ⟨hg, h1 u hg⟩
        · simp only [hvp, if_false] at hv ⊢
          obtain ⟨hg, hr⟩ := h2 u v he hv
          have hup : u ≠ p := by rintro rfl; exact hp hg
          simp only [hup, if_false]
          exact ⟨hg, hr⟩
theorem peelTo_ok {l : List (Int × Int)} {g : Int → Bool} (h : GoneOk l g) : ∀ k, GoneOk l (peelTo l g k)
  | 0 => h
  | k + 1 => peel1_ok (peelTo_ok h k) _
theorem peelR_ok (l : List (Int × Int)) (n : Nat) : ∀ r, GoneOk l (peelR l n r)
  | 0 => ⟨fun _ => 0, 0, ⟨fun u hu => (by cases hu), fun u v _ hv => (by cases hv)⟩⟩
  | r + 1 => peelTo_ok (peelR_ok l n r) n

theorem circleV_iff {l : List (Int × Int)} {n : Nat} (hin : ∀ p ∈ l, (0 ≤ p.1 ∧ p.1 < n) ∧ 0 ≤ p.2 ∧ p.2 < n) : circleV n l = false ↔ Acyc l := by
  constructor
  · intro h
    obtain ⟨rk, N, _, h2⟩ := peelR_ok l n n
    refine ⟨rk, fun p hp => (h2 p.1 p.2 hp ?_).2⟩
    obtain ⟨_, h0, h1⟩ := hin p hp
    have hall : ∀ q ∈ List.range n, peelR l n n (q : Int) = true := by
      intro q hq
      unfold circleV at h
      cases hg : peelR l n n (q : Int) with
      | true => rfl
      | false =>
        have h3 : ((List.range n).any fun p => !peelR l n n (p : Int)) = true := List.any_eq_true.2 ⟨q, hq, by rw [hg]; rfl⟩
        rw [h] at h3; cases h3
    have := hall p.2.toNat (by simp; omega)
    rwa [Int.toNat_of_nonneg h0] at this
  · rintro ⟨rank, hr⟩
    have idx_lt : ∀ u v : Nat, u < n → v < n → rank u < rank v →
        ((List.range n).filter fun i : Nat => decide (rank i < rank u)).length < ((List.range n).filter fun i : Nat => decide (rank i < rank v)).length := by
      intro u v hu hv h
      refine filter_length_lt (fun i hi => ?_) _ u (by simpa using hu) (by simpa using h) (by simp)
      simp only [decide_eq_true_eq] at hi ⊢; omega
    have idx_n : ∀ v : Nat, v < n → ((List.range n).filter fun i : Nat => decide (rank i < rank v)).length < n := by
      intro v hv
      have h3 := filter_length_lt (p := fun _ : Nat => true) (q := fun i : Nat => decide (rank i < rank v)) (fun _ _ => rfl) (List.range n) v (by simpa using hv) rfl (by simp)
      exact Nat.lt_of_lt_of_le h3 (Nat.le_trans (List.length_filter_le _ _) (by simp))
    have key : ∀ r : Nat, ∀ v : Nat, v < n → ((List.range n).filter fun i : Nat => decide (rank i < rank v)).length < r → peelR l n r (v : Int) = true := by
      intro r
      induction r with
      | zero => intro v _ h; omega
      | succ r ih =>
        intro v hv h
        refine peelTo_gone hv fun u hu => ?_
        obtain ⟨⟨a0, a1⟩, _⟩ := hin _ hu
        have hrk := hr _ hu
        have e : (u.toNat : Int) = u := Int.toNat_of_nonneg a0
        have := idx_lt u.toNat v (by dsimp only at a1; omega) hv (by rw [e]; exact hrk)
        have := ih u.toNat (by dsimp only at a1; omega) (by omega)
        rwa [e] at this
    rw [← Bool.not_eq_true]
    intro h
    obtain ⟨p, hp, hg⟩ := List.any_eq_true.1 h
    have hp := List.mem_range.1 hp
    rw [key n p hp (idx_n p hp)] at hg
    cases hg

/-! ### The program's answer -/
def toOf (l : List (Int × Int)) (a : Int) : List Int := (l.filter fun p => p.1 == a).map (·.2)
theorem mem_toOf {l : List (Int × Int)} (a b : Int) : b ∈ toOf l a ↔ (a, b) ∈ l := by
  simp only [toOf, List.mem_map, List.mem_filter, beq_iff_eq]
  constructor
  · rintro ⟨⟨u, v⟩, ⟨h, rfl⟩, rfl⟩; exact h
  · intro h; exact ⟨(a, b), ⟨h, rfl⟩, rfl⟩
/-- A pair of which a place is not there. -/
def outP (n : Int) (p : Int × Int) : Bool := decide (p.1 < 0) || (decide (n ≤ p.1) || (decide (p.2 < 0) || decide (n ≤ p.2)))
def acyclicV (n : Int) (l : List (Int × Int)) : Bool :=
  if n < 0 ∨ 64 < n ∨ l.any (outP n) = true then false else (dfsAll (toOf l) (n.toNat + 1) n.toNat).1
theorem out_in {n : Int} {l : List (Int × Int)} (h0 : 0 ≤ n) (h : ¬ l.any (outP n) = true) : ∀ p ∈ l, (0 ≤ p.1 ∧ p.1 < (n.toNat : Int)) ∧ 0 ≤ p.2 ∧ p.2 < (n.toNat : Int) := by
  intro p hp
  have hx : ¬ outP n p = true := fun hx => h (List.any_eq_true.2 ⟨p, hp, hx⟩)
  simp only [outP, Bool.or_eq_true, decide_eq_true_eq] at hx
  omega
theorem acyclicV_iff {n : Int} {l : List (Int × Int)} : acyclicV n l = true ↔ (0 ≤ n ∧ n ≤ 64 ∧ (∀ p ∈ l, (0 ≤ p.1 ∧ p.1 < n) ∧ 0 ≤ p.2 ∧ p.2 < n)) ∧ Acyc l := by
  unfold acyclicV
  by_cases h : n < 0 ∨ 64 < n ∨ l.any (outP n) = true
  · rw [if_pos h]
    constructor
    · intro h; cases h
    · rintro ⟨⟨h0, h1, h2⟩, _⟩
      rcases h with h | h | h
      · omega
      · omega
      · obtain ⟨p, hp, hx⟩ := List.any_eq_true.1 h
        have := h2 p hp
        simp only [outP, Bool.or_eq_true, decide_eq_true_eq] at hx
        omega
  · rw [if_neg h]
    have h0 : 0 ≤ n := by omega
    have h1 : n ≤ 64 := by omega
    have h2 := out_in h0 (fun h' => h (.inr (.inr h')))
    rw [dfsAll_iff (l := l) (mem_toOf) (by omega) h2]
    constructor
    · intro hA
      exact ⟨⟨h0, h1, fun p hp => by have := h2 p hp; omega⟩, hA⟩
    · exact fun h => h.2
end Go.Proofs.YtacnbdnmkmpldaaGreat.Q
end

/- Pairs by rising places; the relations of an execution as lists of pairs; no program in sight. -/
section
namespace Go.Proofs.YtacnbdnmkmpldaaGreat.Q

/-- By the first place, then the second. -/
def leP (a b : Int × Int) : Bool := decide (a.1 < b.1) || (a.1 == b.1 && decide (a.2 ≤ b.2))
def sortP (l : List (Int × Int)) : List (Int × Int) := l.mergeSort leP
theorem leP_iff {a b : Int × Int} : leP a b = true ↔ a.1 < b.1 ∨ (a.1 = b.1 ∧ a.2 ≤ b.2) := by simp [leP]
theorem leP_trans (a b c : Int × Int) (h : leP a b = true) (h' : leP b c = true) : leP a c = true := by rw [leP_iff] at *; omega
theorem leP_total (a b : Int × Int) : (leP a b || leP b a) = true := by rw [Bool.or_eq_true, leP_iff, leP_iff]; omega
theorem leP_anti {a b : Int × Int} (h : leP a b = true) (h' : leP b a = true) : a = b := by
  rw [leP_iff] at *
  exact Prod.ext (by omega) (by omega)
theorem sortP_perm (l : List (Int × Int)) : (sortP l).Perm l := List.mergeSort_perm _ _
theorem sortP_len (l : List (Int × Int)) : (sortP l).length = l.length := (sortP_perm l).length_eq
theorem sortP_pairwise (l : List (Int × Int)) : (sortP l).Pairwise fun a b => leP a b = true := List.pairwise_mergeSort leP_trans leP_total l
theorem sortP_eq {l s : List (Int × Int)} (h : l.Perm s) (hs : s.Pairwise fun a b => leP a b = true) : sortP l = s :=
  List.Perm.eq_of_pairwise (le := fun a b => leP a b = true) (fun _ _ _ _ h1 h2 => leP_anti h1 h2) (sortP_pairwise l) hs ((sortP_perm l).trans h)
theorem sortP_of_mem {l s : List (Int × Int)} (hl : l.Nodup) (hn : s.Nodup) (hs : s.Pairwise fun a b => leP a b = true) (h : ∀ p, p ∈ l ↔ p ∈ s) : sortP l = s :=
  sortP_eq ((List.perm_ext_iff_of_nodup hl hn).2 h) hs
theorem mem_sortP {l : List (Int × Int)} {p : Int × Int} : p ∈ sortP l ↔ p ∈ l := (sortP_perm l).mem_iff

/-- What is read from which store. -/
def rfL (x : Ex) : List (Int × Int) := ((List.range x.src.length).filter fun b => decide (0 ≤ x.src.getD b 0)).map fun b : Nat => (x.src.getD b 0, (b : Int))
def rfV (x : Ex) : List (Int × Int) := if checkV x = 0 then sortP (rfL x) else []
/-- Program order. -/
def poL (x : Ex) : List (Int × Int) := (List.range x.evs.length).flatMap fun a => ((List.range x.evs.length).filter fun b => decide (a < b) && (decide (0 ≤ (ev x a).hart) && (ev x a).hart == (ev x b).hart)).map fun b : Nat => ((a : Int), (b : Int))
def poV (x : Ex) : List (Int × Int) := if checkV x = 0 then sortP (poL x) else []
/-- One ahead of another in a list. -/
def aheadL : List Int → List (Int × Int)
  | [] => []
  | a :: l => (l.map fun b => (a, b)) ++ aheadL l
def coL (x : Ex) : List (Int × Int) := x.order.flatMap aheadL
def coV (x : Ex) : List (Int × Int) := if checkV x = 0 then sortP (coL x) else []
def frL (co rf : List (Int × Int)) : List (Int × Int) := rf.flatMap fun r => (co.filter fun c => c.1 == r.1 && c.2 != r.2).map fun c => (r.2, c.2)
def frV (x : Ex) : List (Int × Int) := sortP (frL (coV x) (rfV x))
end Go.Proofs.YtacnbdnmkmpldaaGreat.Q
end

/- The reference's Check asks the same: no program in sight. -/
section
namespace Go.Proofs.YtacnbdnmkmpldaaGreat.Q

theorem nodup_storesAt (x : Ex) (a : Int) : (storesAt x a).Nodup := by
  unfold storesAt
  refine List.pairwise_map.2 ?_
  refine (List.Pairwise.filter _ (List.nodup_range (n := x.evs.length))).imp fun h e => h (by omega)
theorem sorted_storesAt (x : Ex) (a : Int) : (storesAt x a).Pairwise fun i j => leI i j = true := by
  unfold storesAt
  refine List.pairwise_map.2 ?_
  refine (List.Pairwise.filter _ (List.pairwise_lt_range (n := x.evs.length))).imp fun h => ?_
  simp only [leI, decide_eq_true_eq]; omega
theorem mem_storesAt {x : Ex} {a : Int} {n : Nat} : (n : Int) ∈ storesAt x a ↔ n < x.evs.length ∧ stores (ev x n) = true ∧ (ev x n).addr = a := by
  simp only [storesAt, List.mem_map, List.mem_filter, List.mem_range, Bool.and_eq_true, beq_iff_eq]
  constructor
  · rintro ⟨m, h, e⟩
    obtain rfl : m = n := by omega
    exact h
  · exact fun h => ⟨n, h, rfl⟩
theorem mem_storesAt' {x : Ex} {a d : Int} (h : d ∈ storesAt x a) : 0 ≤ d ∧ d < x.evs.length := by
  simp only [storesAt, List.mem_map, List.mem_filter, List.mem_range] at h
  obtain ⟨m, ⟨hm, _⟩, rfl⟩ := h
  omega

theorem leI_trans (a b c : Int) (h1 : leI a b = true) (h2 : leI b c = true) : leI a c = true := by simp only [leI, decide_eq_true_eq] at *; omega
theorem leI_total (a b : Int) : (leI a b || leI b a) = true := by simp only [leI, Bool.or_eq_true, decide_eq_true_eq]; omega
theorem perm_of_sub : ∀ (s l : List Int), s.Nodup → (∀ a ∈ s, a ∈ l) → l.length = s.length → l.Perm s
  | [], l, _, _, h => by rw [List.eq_nil_of_length_eq_zero h]
  | a :: s, l, hn, hs, h => by
    obtain ⟨h1, h2⟩ := List.nodup_cons.1 hn
    have ha := hs a List.mem_cons_self
    have hl := List.length_erase_of_mem ha
    have hp : (l.erase a).Perm s := perm_of_sub s (l.erase a) h2 (fun b hb => (List.mem_erase_of_ne (by rintro rfl; exact h1 hb)).2 (hs b (List.mem_cons_of_mem _ hb))) (by simp at h; omega)
    exact (List.perm_cons_erase ha).trans (hp.cons a)
/-- A list sorted is a rising one just if it has its numbers, and no more. -/
theorem sort_storesAt {x : Ex} {a : Int} {l : List Int} : l.mergeSort leI = storesAt x a ↔ (∀ d ∈ storesAt x a, d ∈ l) ∧ l.length = (storesAt x a).length := by
  constructor
  · intro h
    have hp := List.mergeSort_perm l leI
    rw [h] at hp
    exact ⟨fun d hd => hp.mem_iff.1 hd, hp.length_eq.symm⟩
  · rintro ⟨h1, h2⟩
    have hp := perm_of_sub _ _ (nodup_storesAt x a) h1 h2
    refine List.Perm.eq_of_pairwise (le := fun a b => leI a b = true) (fun p q _ _ h1 h2 => ?_) (List.pairwise_mergeSort leI_trans leI_total l) (sorted_storesAt x a) ((List.mergeSort_perm l leI).trans hp)
    simp only [leI, decide_eq_true_eq] at h1 h2; omega

/-- The first n events that store at an address are all in l. -/
def allIn (x : Ex) (a : Int) (l : List Int) (k : Nat) : Bool := (List.range k).all fun n => !(stores (ev x n) && (ev x n).addr == a) || l.contains (n : Int)
theorem allIn_succ (x : Ex) (a : Int) (l : List Int) (k : Nat) : allIn x a l (k + 1) = (allIn x a l k && (!(stores (ev x k) && (ev x k).addr == a) || l.contains (k : Int))) := by
  simp [allIn, List.range_succ, List.all_append]
theorem allIn_iff {x : Ex} {a : Int} {l : List Int} : allIn x a l x.evs.length = true ↔ ∀ d ∈ storesAt x a, d ∈ l := by
  simp only [allIn, List.all_eq_true, List.mem_range, Bool.or_eq_true, Bool.not_eq_true', List.contains_iff_mem]
  constructor
  · intro h d hd
    obtain ⟨h0, h1⟩ := mem_storesAt' hd
    obtain ⟨n, rfl⟩ := Int.eq_ofNat_of_zero_le h0
    have hm := mem_storesAt.1 hd
    rcases h n (by omega) with h | h
    · rw [hm.2.1, hm.2.2] at h; simp at h
    · exact h
  · intro h n hn
    by_cases hs : (stores (ev x n) && (ev x n).addr == a) = true
    · right
      simp only [Bool.and_eq_true, beq_iff_eq] at hs
      exact h _ (mem_storesAt.2 ⟨hn, hs⟩)
    · left; simpa using hs
theorem allIn_no {x : Ex} {a : Int} {l : List Int} {k : Nat} (hk : k < x.evs.length) (h : (!(stores (ev x k) && (ev x k).addr == a) || l.contains (k : Int)) = false) : allIn x a l x.evs.length = false := by
  rw [← Bool.not_eq_true]
  intro hall
  have := List.all_eq_true.1 hall k (List.mem_range.2 hk)
  rw [h] at this; cases this

/-- What the reference asks of a list. -/
theorem orderOk_ref {x : Ex} {addrs : List Int} {i : Nat} {l : List Int} (hne : 0 < (storesAt x (addrs.getD i 0)).length) :
    orderOk x addrs i l = (allIn x (addrs.getD i 0) l x.evs.length && ((l.length == (storesAt x (addrs.getD i 0)).length) && l.getD 0 0 == i)) := by
  rw [Bool.eq_iff_iff]
  simp only [orderOk, Bool.and_eq_true, Bool.not_eq_true', beq_iff_eq, allIn_iff, sort_storesAt]
  constructor
  · rintro ⟨_, h1, h2, h3⟩; exact ⟨h2, h3, h1⟩
  · rintro ⟨h2, h3, h1⟩
    refine ⟨?_, h1, h2, h3⟩
    cases l with
    | nil => rw [← h3] at hne; simp at hne
    | cons => rfl
end Go.Proofs.YtacnbdnmkmpldaaGreat.Q
end

/- What an execution has that may be. -/
section
namespace Go.Proofs.YtacnbdnmkmpldaaGreat.Q

theorem check_zero {x : Ex} (h : checkV x = 0) : ¬ 64 < x.evs.length ∧ (∀ n, n < x.evs.length → eventB x n (addrsOf x.evs).length (addrsOf x.evs) = true) ∧ srcB x = true ∧ orderB x (addrsOf x.evs) = true := by
  unfold checkV at h
  by_cases h1 : 64 < x.evs.length
  · rw [if_pos h1] at h; cases h
  rw [if_neg h1] at h
  by_cases h2 : ((List.range x.evs.length).all fun n => eventB x n (addrsOf x.evs).length (addrsOf x.evs)) = true
  · simp only [h2, Bool.not_true, Bool.false_eq_true, if_false] at h
    by_cases h3 : srcB x = true
    · simp only [h3, Bool.not_true, Bool.false_eq_true, if_false] at h
      by_cases h4 : orderB x (addrsOf x.evs) = true
      · exact ⟨h1, fun n hn => List.all_eq_true.1 h2 n (List.mem_range.2 hn), h3, h4⟩
      · simp [h4] at h
    · simp [h3] at h
  · simp only [h2] at h; cases h
theorem src_at {x : Ex} (h : srcB x = true) : x.src.length = x.evs.length ∧ ∀ n, n < x.evs.length → srcOk x n (x.src.getD n 0) = true := by
  simp only [srcB, Bool.and_eq_true, beq_iff_eq, List.all_eq_true, List.mem_range] at h
  exact h
theorem src_range {x : Ex} {n : Nat} {f : Int} (h : srcOk x n f = true) : (loads (ev x n) = true ∧ 0 ≤ f ∧ f < x.evs.length) ∨ (loads (ev x n) = false ∧ f = -1) := by
  unfold srcOk at h
  split at h
  · rename_i hl
    simp only [Bool.and_eq_true, decide_eq_true_eq] at h
    exact .inl ⟨hl, h.2.1, h.2.2.1⟩
  · rename_i hl
    exact .inr ⟨by simpa using hl, by simpa using h⟩
/-- What is read, of an execution that may be: places. -/
theorem rfL_places {x : Ex} (h : checkV x = 0) : ∀ p ∈ rfL x, (0 ≤ p.1 ∧ p.1 < x.evs.length) ∧ 0 ≤ p.2 ∧ p.2 < x.evs.length := by
  obtain ⟨_, _, h3, _⟩ := check_zero h
  obtain ⟨hl, hs⟩ := src_at h3
  intro p hp
  simp only [rfL, List.mem_map, List.mem_filter, List.mem_range, decide_eq_true_eq] at hp
  obtain ⟨b, ⟨hb, h0⟩, rfl⟩ := hp
  have := src_range (hs b (by omega))
  dsimp only
  omega
end Go.Proofs.YtacnbdnmkmpldaaGreat.Q
end

