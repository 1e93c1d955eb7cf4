/- Pairs in rows, sorted. -/
import Derived.Test.YtacnbdnmkmpldaaGreatItP
import Derived.Shelf.GgSortFunc.InsertionK
namespace Go.Proofs.YtacnbdnmkmpldaaGreat
open Go Go.Proofs Go.RowKit Go.Sort Q
set_option linter.unusedSimpArgs false
set_option linter.unusedVariables false

/-- A pair of places, neither too great for a difference to turn round. -/
def PlaceOk (p : Int × Int) : Prop := (0 ≤ p.1 ∧ p.1 ≤ 17592186044416) ∧ 0 ≤ p.2 ∧ p.2 ≤ 17592186044416
abbrev Pr : Type := { p : Int × Int // PlaceOk p }
instance prInh : Inhabited Pr := ⟨⟨(0, 0), ⟨by decide, by decide⟩, by decide, by decide⟩⟩
def encPr (x : Pr) : List Value := cellsP x.1
def cfP (x y : Pr) : Int := if x.1.1 = y.1.1 then x.1.2 - y.1.2 else x.1.1 - y.1.1
theorem ltP (x y : Pr) : (cfP x y < 0) ↔ (x.1.1 < y.1.1 ∨ (x.1.1 = y.1.1 ∧ x.1.2 < y.1.2)) := by
  unfold cfP; split <;> omega

theorem flatP_even : ∀ (l : List (Int × Int)) (i : Nat), (l.flatMap cellsP)[2 * i]? = l[i]?.map fun p => .int .i64 p.1
  | [], i => by simp
  | p :: l, 0 => by simp [cellsP]
  | p :: l, i + 1 => by
    have := flatP_even l i
    rw [show 2 * (i + 1) = 2 * i + 1 + 1 by omega]
    simpa [cellsP] using this
theorem flatP_odd : ∀ (l : List (Int × Int)) (i : Nat), (l.flatMap cellsP)[2 * i + 1]? = l[i]?.map fun p => .int .i64 p.2
  | [], i => by simp
  | p :: l, 0 => by simp [cellsP]
  | p :: l, i + 1 => by
    have := flatP_odd l i
    rw [show 2 * (i + 1) + 1 = 2 * i + 1 + 1 + 1 by omega]
    simpa [cellsP] using this
theorem flatP_len : ∀ l : List (Int × Int), (l.flatMap cellsP).length = l.length * 2
  | [] => rfl
  | p :: l => by
    have := flatP_len l
    simp only [List.flatMap_cons, List.length_append, this, List.length_cons, cellsP, List.length_nil]; omega
theorem flatP_at (l : List (Int × Int)) (t : Nat) (h : t < l.length * 2) : ∃ p, l[t / 2]? = some p ∧ (l.flatMap cellsP)[t]? = some ((cellsP p)[t % 2]!) := by
  have hi : t / 2 < l.length := by omega
  refine ⟨l[t / 2], List.getElem?_eq_getElem hi, ?_⟩
  rcases Nat.mod_two_eq_zero_or_one t with h2 | h2
  · have := flatP_even l (t / 2)
    rw [show 2 * (t / 2) = t by omega] at this
    rw [this, List.getElem?_eq_getElem hi, h2]; rfl
  · have := flatP_odd l (t / 2)
    rw [show 2 * (t / 2) + 1 = t by omega] at this
    rw [this, List.getElem?_eq_getElem hi, h2]; rfl
theorem flatK_pr (L : List Pr) : (flatK encPr 2 L.toArray).toList = (L.map (·.1)).flatMap cellsP := by
  apply List.ext_getElem?
  intro t
  by_cases ht : t < L.length * 2
  · obtain ⟨p, hp, hc⟩ := flatP_at (L.map (·.1)) t (by simpa using ht)
    rw [hc, Array.getElem?_toList]
    have hs : t < (flatK encPr 2 L.toArray).size := by simpa using ht
    have := get_flatK encPr 2 L.toArray t (by simpa using ht)
    rw [getElem!_pos _ t hs] at this
    rw [Array.getElem?_eq_getElem hs, this]
    have hi : t / 2 < L.length := by omega
    rw [List.getElem?_map, List.getElem?_eq_getElem hi] at hp
    injection hp with hp
    have e : (L.toArray[t / 2]! : Pr) = L[t / 2] := by rw [getElem!_pos _ _ (by simpa using hi)]; simp
    rw [e]
    show some ((cellsP (L[t / 2]).1)[t % 2]!) = _
    rw [show (L[t / 2]).1 = p from hp]
  · rw [List.getElem?_eq_none (by simp; omega), List.getElem?_eq_none (by rw [flatP_len]; simp; omega)]

theorem holdsK_of_block {w : World} {g : Nat} {cur : Array Value} {e : TypeId} {L : List Pr} (hb : w.heap[g]? = some (.cells cur e (0, 0))) (ht : cur.toList.take (L.length * 2) = (L.map (·.1)).flatMap cellsP) : HoldsK encPr 2 w g 0 L.toArray := by
  intro j hj
  have hj' : j < L.length * 2 := by simpa using hj
  refine ⟨?_, by simp [World.frozen?, hb]⟩
  have h1 : (cur.toList.take (L.length * 2))[j]? = (flatK encPr 2 L.toArray).toList[j]? := by rw [ht, flatK_pr]
  rw [List.getElem?_take_of_lt hj'] at h1
  simp only [World.cell?, hb, Nat.zero_add]
  simp only [Option.isSome_none, Bool.false_eq_true, if_false]
  rw [← Array.getElem?_toList, h1, Array.getElem?_toList, getElem!_pos _ j hj, Array.getElem?_eq_getElem hj]; rfl

theorem heap_sorted_id {w : World} {g n : Nat} {os : Array Obj} {cur : Array Value} {e : TypeId} {fr : Nat × Nat} (d : Array Value) (hb : w.heap[g]? = some (.cells cur e fr)) :
    (grow (putRow id (Sort.ahead w n) g 0 d) os).heap[g]? = some (.cells (putCells id 0 d cur) e fr) := by
  have hg : g < w.heap.size := (Array.getElem?_eq_some_iff.1 hb).1
  rw [heap_grow_old _ _ (by simpa using hg)]
  simp [putRow, mapBlock, Sort.ahead, Array.getElem?_modify, hb, onCells]
theorem grownBy_sorted_id {w : World} {g n : Nat} {os : Array Obj} (d : Array Value) : w.grownBy (grow (putRow id (Sort.ahead w n) g 0 d) os) (some g) := by
  refine ⟨rfl, rfl, rfl, by simp, fun k hk hne => ?_⟩
  rw [heap_grow_old _ _ (by simpa using hk)]
  have : g ≠ k := fun e => hne (by rw [e])
  simp [putRow, mapBlock, Sort.ahead, Array.getElem?_modify, this]
theorem take_putCells_id (cur d : Array Value) (h : d.size ≤ cur.size) : (putCells id 0 d cur).toList.take d.size = d.toList := by
  apply List.ext_getElem?
  intro j
  by_cases hj : j < d.size
  · rw [List.getElem?_take_of_lt hj, Array.getElem?_toList]
    simp [putCells, hj, show j < cur.size by omega]
  · rw [List.getElem?_take_eq_none (by omega), List.getElem?_eq_none (by simp; omega)]
theorem ownsRow_sorted_p {w : World} {base g cap n : Nat} {e : TypeId} {os : Array Obj} {cur : Array Value} {L : List Pr} {m : Nat} (hl : L.length = m) (hbase : base ≤ g) (hb : w.heap[g]? = some (.cells cur e (0, 0)))
    (h1 : m ≤ cap) (h2 : cap ≤ maxLen) (h3 : cur.size = cap * 2) :
    (grow (putRow id (Sort.ahead w n) g 0 (flatK encPr 2 L.toArray)) os).ownsRow base e 2 (.slice (some ⟨g, 0, none⟩) m cap) m ((L.map (·.1)).flatMap cellsP) := by
  have hs : (flatK encPr 2 L.toArray).size = m * 2 := by simp [hl]
  refine ⟨by rw [flatP_len]; simp [hl], .inr ⟨g, cap, _, rfl, hbase, heap_sorted_id _ hb, h1, h2, by simp [putCells, h3], ?_⟩⟩
  have := take_putCells_id cur (flatK encPr 2 L.toArray) (by rw [hs, h3]; omega)
  rw [hs] at this
  rw [this, flatK_pr]

/-- Pairs as such places. -/
theorem pr_of (ss : List (Int × Int)) (h : ∀ p ∈ ss, PlaceOk p) : ∃ L : List Pr, L.map (·.1) = ss :=
  ⟨ss.pmap (fun p hp => ⟨p, hp⟩) h, by simp [List.map_pmap]⟩
theorem sorted_pr (L : List Pr) (r : Pr → Pr → Bool) (hr : ∀ x y, r x y = leP x.1 y.1) : (L.mergeSort r).map (·.1) = sortP (L.map (·.1)) := by
  refine (sortP_eq ((List.mergeSort_perm L r).map _).symm ?_).symm
  refine List.pairwise_map.2 ?_
  refine (List.pairwise_mergeSort (le := r) (fun a b c h1 h2 => ?_) (fun a b => ?_) L).imp fun h => by rwa [hr] at h
  · rw [hr] at *; exact leP_trans _ _ _ h1 h2
  · rw [hr, hr]; exact leP_total _ _

/-- A row of pairs in memory. -/
def Prs (w : World) (A : Option Addr) (l : List (Int × Int)) : Prop :=
  l.length ≤ 17592186044416 ∧ (0 < l.length → ∃ b off, A = some ⟨b, off, none⟩ ∧ ∀ j, j < l.length → w.cell? ⟨b, off + j * 2, none⟩ = some (.int .i64 (l[j]?.getD (0, 0)).1) ∧ w.cell? ⟨b, off + j * 2 + 1, none⟩ = some (.int .i64 (l[j]?.getD (0, 0)).2))
theorem Prs.fut {w : World} {A : Option Addr} {l : List (Int × Int)} (h : Prs w A l) (s : Fut w) : Prs s.val A l :=
  ⟨h.1, fun hp => by obtain ⟨b, off, hA, hc⟩ := h.2 hp; exact ⟨b, off, hA, fun j hj => ⟨s.cell (hc j hj).1, s.cell (hc j hj).2⟩⟩⟩
theorem Prs.below {w w' : World} {A : Option Addr} {l : List (Int × Int)} (h : Prs w A l) (hb : Below w.heap.size w w') : Prs w' A l := h.fut ⟨w', hb⟩
theorem prs_of_owned {w : World} {base g cap : Nat} {e : TypeId} {l : List (Int × Int)} (hl : l.length ≤ 17592186044416) (h : w.ownsRow base e 2 (.slice (some ⟨g, 0, none⟩) l.length cap) l.length (l.flatMap cellsP)) : Prs w (some ⟨g, 0, none⟩) l := by
  refine ⟨hl, fun _ => ⟨g, 0, rfl, fun j hj => ?_⟩⟩
  rcases h.2 with ⟨h, _⟩ | ⟨g', cp, cur, e', _, hb, _, _, _, ht⟩
  · cases h
  injection e' with e1 _ _; injection e1 with e1; injection e1 with e1; subst e1
  have key : ∀ t, t < l.length * 2 → w.cell? ⟨g, 0 + t, none⟩ = (l.flatMap cellsP)[t]? := by
    intro t ht2
    rw [← ht, List.getElem?_take_of_lt ht2]
    simp [World.cell?, hb]
  have e0 := key (j * 2) (by omega)
  have e1 := key (j * 2 + 1) (by omega)
  rw [show j * 2 = 2 * j by omega, flatP_even, List.getElem?_eq_getElem hj] at e0
  rw [show j * 2 + 1 = 2 * j + 1 by omega, flatP_odd, List.getElem?_eq_getElem hj] at e1
  rw [List.getElem?_eq_getElem hj]
  exact ⟨by rw [show 0 + j * 2 = 0 + 2 * j by omega]; exact e0, by rw [show 0 + j * 2 + 1 = 0 + (2 * j + 1) by omega]; exact e1⟩

set_option maxRecDepth 100000 in
set_option maxHeartbeats 1000000 in
/-- The order of pairs. -/
theorem cmp_any (x y : Pr) (W : World) :
    Calls Tryz.prog 96 #[.agg #[.int .i64 x.1.1, .int .i64 x.1.2], .agg #[.int .i64 y.1.1, .int .i64 y.1.2]] W fun e w' => e = .returned (.int .i64 (cfP x y)) ∧ ∃ q os', w' = grow (W.drewN q) os' := by
  obtain ⟨⟨x1, x2⟩, ⟨hx1, hx2⟩, hx3, hx4⟩ := x
  obtain ⟨⟨y1, y2⟩, ⟨hy1, hy2⟩, hy3, hy4⟩ := y
  dsimp only [cfP] at *
  by_cases h : x1 = y1
  · have q0 : (x1 != y1) = false := by simp [h]
    rw [if_pos h]
    have HH := Lib.hid h
    clear h
    go_enter Tryz.func96, Tryz.ntmps96
    go_wp2
    go_ret
    exact ⟨rfl, 0, _, by rw [alloc_eq_grow, alloc_eq_grow, grow_grow]; rfl⟩
  · have q0 : (x1 != y1) = true := by simp [h]
    rw [if_neg h]
    go_enter Tryz.func96, Tryz.ntmps96
    go_wp2
    go_ret
    exact ⟨rfl, 0, _, by rw [alloc_eq_grow, alloc_eq_grow, grow_grow]; rfl⟩
end Go.Proofs.YtacnbdnmkmpldaaGreat
