/- The document's relations, as lists of pairs, are the program's: no program in sight. -/
import Derived.Test.YtacnbdnmkmpldaaGreatCoP
namespace Go.Proofs.YtacnbdnmkmpldaaGreat
open Go.RowKit Q
set_option linter.unusedSimpArgs false
set_option linter.unusedVariables false

def isPo (x : Ex) (a b : Nat) : Bool := decide (a < b) && (decide (0 ≤ (ev x a).hart) && (ev x a).hart == (ev x b).hart)
def isRf (x : Ex) (a b : Nat) : Bool := loads (ev x b) && x.src.getD b 0 == (a : Int)
/-- Where a number stands in the first list that has it. -/
def placeL : List (List Int) → Int → Int
  | [], _ => -1
  | l :: L, n => if n ∈ l then (l.idxOf n : Int) else placeL L n
def placeV (x : Ex) (n : Int) : Int := placeL x.order n
def isCo (x : Ex) (a b : Nat) : Bool := stores (ev x a) && (stores (ev x b) && ((ev x a).addr == (ev x b).addr && decide (placeV x a < placeV x b)))
def isFr (x : Ex) (a b : Nat) : Bool := a != b && (loads (ev x a) && isCo x (x.src.getD a 0).toNat b)
def pairsOf (n : Nat) (is : Nat → Nat → Bool) : List (Int × Int) := (List.range n).flatMap fun a => ((List.range n).filter fun b => is a b).map fun b : Nat => ((a : Int), (b : Int))

theorem mem_pairsOf {n : Nat} {is : Nat → Nat → Bool} {p : Int × Int} : p ∈ pairsOf n is ↔ ∃ a b : Nat, a < n ∧ b < n ∧ is a b = true ∧ p = ((a : Int), (b : Int)) := by
  unfold pairsOf
  rw [List.mem_flatMap]
  constructor
  · rintro ⟨a, ha, hp⟩
    obtain ⟨b, hb, rfl⟩ := List.mem_map.1 hp
    obtain ⟨hb, h⟩ := List.mem_filter.1 hb
    exact ⟨a, b, List.mem_range.1 ha, List.mem_range.1 hb, h, rfl⟩
  · rintro ⟨a, b, ha, hb, h, rfl⟩
    exact ⟨a, List.mem_range.2 ha, List.mem_map.2 ⟨b, List.mem_filter.2 ⟨List.mem_range.2 hb, h⟩, rfl⟩⟩
theorem pairsOf_lt (n : Nat) (is : Nat → Nat → Bool) : (pairsOf n is).Pairwise fun p q => p.1 < q.1 ∨ (p.1 = q.1 ∧ p.2 < q.2) := by
  unfold pairsOf
  rw [List.pairwise_flatMap]
  refine ⟨fun a _ => ?_, ?_⟩
  · refine List.pairwise_map.2 ((List.Pairwise.filter _ (List.pairwise_lt_range (n := n))).imp fun h => ?_)
    exact .inr ⟨rfl, by dsimp only; omega⟩
  · refine (List.pairwise_lt_range (n := n)).imp fun {a b} h p hp q hq => ?_
    obtain ⟨_, _, rfl⟩ := List.mem_map.1 hp
    obtain ⟨_, _, rfl⟩ := List.mem_map.1 hq
    exact .inl (by dsimp only; omega)
theorem pairsOf_nodup (n : Nat) (is : Nat → Nat → Bool) : (pairsOf n is).Nodup :=
  (pairsOf_lt n is).imp fun {p q} h e => by subst e; omega
theorem pairsOf_le (n : Nat) (is : Nat → Nat → Bool) : (pairsOf n is).Pairwise fun a b => leP a b = true :=
  (pairsOf_lt n is).imp fun h => by rw [leP_iff]; omega
theorem sort_pairsOf {l : List (Int × Int)} {n : Nat} {is : Nat → Nat → Bool} (hl : l.Nodup) (h : ∀ p, p ∈ l ↔ p ∈ pairsOf n is) : sortP l = pairsOf n is :=
  sortP_of_mem hl (pairsOf_nodup n is) (pairsOf_le n is) h
theorem pairsOf_succ (N n : Nat) (is : Nat → Nat → Bool) :
    ((List.range (n + 1)).flatMap fun a => ((List.range N).filter fun b => is a b).map fun b : Nat => ((a : Int), (b : Int))) =
    ((List.range n).flatMap fun a => ((List.range N).filter fun b => is a b).map fun b : Nat => ((a : Int), (b : Int))) ++ ((List.range N).filter fun b => is n b).map fun b : Nat => ((n : Int), (b : Int)) := by
  rw [List.range_succ, List.flatMap_append]; simp

theorem po_pairs {x : Ex} (h : checkV x = 0) : poV x = pairsOf x.evs.length (isPo x) := by
  unfold poV; rw [if_pos h]
  exact sort_pairsOf (pairsOf_nodup x.evs.length (isPo x)) (fun _ => Iff.rfl)

theorem rf_nodup (x : Ex) : (rfL x).Nodup := by
  unfold rfL
  refine List.pairwise_map.2 ((List.Pairwise.filter _ (List.nodup_range (n := x.src.length))).imp fun h e => ?_)
  injection e with _ e2
  exact h (by omega)
theorem mem_rf {x : Ex} (h : checkV x = 0) {p : Int × Int} : p ∈ rfL x ↔ p ∈ pairsOf x.evs.length (isRf x) := by
  obtain ⟨_, _, h3, _⟩ := check_zero h
  obtain ⟨hl, hs⟩ := src_at h3
  rw [mem_pairsOf]
  simp only [rfL, List.mem_map, List.mem_filter, List.mem_range, decide_eq_true_eq, isRf, Bool.and_eq_true, beq_iff_eq]
  constructor
  · rintro ⟨b, ⟨hb, h0⟩, rfl⟩
    rcases src_range (hs b (by omega)) with ⟨h1, h2, h4⟩ | ⟨h1, h2⟩
    · exact ⟨(x.src.getD b 0).toNat, b, by omega, by omega, ⟨h1, by omega⟩, Prod.ext (by dsimp only; omega) rfl⟩
    · omega
  · rintro ⟨a, b, ha, hb, ⟨h1, h2⟩, rfl⟩
    exact ⟨b, ⟨by omega, by omega⟩, by rw [h2]⟩
theorem rf_pairs {x : Ex} (h : checkV x = 0) : rfV x = pairsOf x.evs.length (isRf x) := by
  rw [rf_yes h]
  exact sort_pairsOf (rf_nodup x) (fun _ => mem_rf h)

theorem ahead_nodup : ∀ {l : List Int}, l.Nodup → (aheadL l).Nodup
  | [], _ => List.Pairwise.nil
  | a :: l, h => by
    obtain ⟨h1, h2⟩ := List.nodup_cons.1 h
    show ((l.map fun b => (a, b)) ++ aheadL l).Nodup
    rw [List.nodup_append]
    refine ⟨List.pairwise_map.2 (h2.imp fun h e => h (by injection e)), ahead_nodup h2, fun p hp q hq e => ?_⟩
    subst e
    obtain ⟨b, hb, rfl⟩ := List.mem_map.1 hp
    exact h1 (ahead_mem hq).1
theorem co_nodup {x : Ex} (h : checkV x = 0) : (coL x).Nodup := by
  unfold coL List.Nodup
  rw [List.pairwise_flatMap]
  refine ⟨fun l hl => ?_, ?_⟩
  · obtain ⟨k, hk, rfl⟩ := List.getElem_of_mem hl
    exact ahead_nodup (row_nodup h hk)
  · rw [List.pairwise_iff_getElem]
    intro i j hi hj hij p hp q hq e
    subst e
    have := row_one h hi hj (ahead_mem hp).1 (ahead_mem hq).1
    omega
theorem placeL_at : ∀ {L : List (List Int)} {k : Nat} (hk : k < L.length) {n : Int}, n ∈ L[k] → (∀ j (hj : j < L.length), n ∈ L[j] → j = k) → placeL L n = (L[k].idxOf n : Int)
  | [], k, hk, n, _, _ => by cases hk
  | l :: L, 0, hk, n, hn, _ => by
    show (if n ∈ l then _ else _) = _
    rw [if_pos (show n ∈ l from hn)]; rfl
  | l :: L, k + 1, hk, n, hn, h => by
    show (if n ∈ l then _ else _) = _
    rw [if_neg (fun hm => by have := h 0 (by simp) hm; omega)]
    exact placeL_at (L := L) (k := k) (by simpa using hk) hn (fun j hj hm => by have := h (j + 1) (by simpa using hj) hm; omega)
theorem place_row {x : Ex} (h : checkV x = 0) {k : Nat} (hk : k < x.order.length) {n : Int} (hn : n ∈ x.order[k]) : placeV x n = (x.order[k].idxOf n : Int) :=
  placeL_at hk hn fun _ hj hm => row_one h hj hk hm hn
theorem mem_coL {x : Ex} {p : Int × Int} : p ∈ coL x ↔ ∃ (k : Nat) (hk : k < x.order.length), p ∈ aheadL x.order[k] := by
  unfold coL
  rw [List.mem_flatMap]
  constructor
  · rintro ⟨l, hl, hm⟩
    obtain ⟨k, hk, rfl⟩ := List.getElem_of_mem hl
    exact ⟨k, hk, hm⟩
  · rintro ⟨k, hk, hm⟩
    exact ⟨_, List.getElem_mem hk, hm⟩
theorem row_of {x : Ex} (h : checkV x = 0) {a : Nat} (ha : a < x.evs.length) (hs : stores (ev x a) = true) : ∃ (k : Nat) (hk : k < x.order.length) (hk' : k < (addrsOf x.evs).length), (addrsOf x.evs)[k] = (ev x a).addr ∧ (a : Int) ∈ x.order[k] := by
  have hl := row_len h
  have hea : ev x a = x.evs[a] := by simp [ev, List.getD_eq_getElem?_getD, ha]
  have hmem : (ev x a).addr ∈ addrsOf x.evs := mem_addrsC.2 ⟨x.evs[a], List.getElem_mem ha, by rw [← hea]; exact stores_kind hs, by rw [hea]⟩
  obtain ⟨k, hk, hke⟩ := List.getElem_of_mem hmem
  exact ⟨k, by omega, hk, hke, (row_mem h (by omega) hk).2 (mem_storesAt.2 ⟨ha, hs, hke.symm⟩)⟩
theorem co_is {x : Ex} (h : checkV x = 0) {a b : Nat} (ha : a < x.evs.length) (hb : b < x.evs.length) : ((a : Int), (b : Int)) ∈ coL x ↔ isCo x a b = true := by
  rw [mem_coL]
  simp only [isCo, Bool.and_eq_true, beq_iff_eq, decide_eq_true_eq]
  have hl := row_len h
  constructor
  · rintro ⟨k, hk, hm⟩
    have p1 := (ahead_idx (row_nodup h hk)).1 hm
    have m2 := mem_storesAt.1 ((row_mem h hk (by omega)).1 p1.1)
    have m3 := mem_storesAt.1 ((row_mem h hk (by omega)).1 p1.2.1)
    refine ⟨m2.2.1, m3.2.1, m2.2.2.trans m3.2.2.symm, ?_⟩
    rw [place_row h hk p1.1, place_row h hk p1.2.1]
    omega
  · rintro ⟨s1, s2, had, hlt⟩
    obtain ⟨k, hk, hk', hka, hm⟩ := row_of h ha s1
    have hm2 : (b : Int) ∈ x.order[k] := (row_mem h hk hk').2 (mem_storesAt.2 ⟨hb, s2, by rw [← had, hka]⟩)
    rw [place_row h hk hm, place_row h hk hm2] at hlt
    exact ⟨k, hk, (ahead_idx (row_nodup h hk)).2 ⟨hm, hm2, by omega⟩⟩
theorem mem_co_pairs {x : Ex} (h : checkV x = 0) {p : Int × Int} : p ∈ coL x ↔ p ∈ pairsOf x.evs.length (isCo x) := by
  rw [mem_pairsOf]
  constructor
  · intro hp
    obtain ⟨h1, h2⟩ := coL_places h p hp
    obtain ⟨p1, p2⟩ := p
    dsimp only at h1 h2
    obtain ⟨a, rfl⟩ := Int.eq_ofNat_of_zero_le h1.1
    obtain ⟨b, rfl⟩ := Int.eq_ofNat_of_zero_le h2.1
    exact ⟨a, b, by omega, by omega, (co_is h (by omega) (by omega)).1 hp, rfl⟩
  · rintro ⟨a, b, ha, hb, hi, rfl⟩
    exact (co_is h ha hb).2 hi
theorem co_pairs {x : Ex} (h : checkV x = 0) : coV x = pairsOf x.evs.length (isCo x) := by
  rw [co_yes h]
  exact sort_pairsOf (co_nodup h) (fun _ => mem_co_pairs h)

theorem fr_pairs {x : Ex} (h : checkV x = 0) : frV x = pairsOf x.evs.length (isFr x) := by
  obtain ⟨_, _, h3, _⟩ := check_zero h
  obtain ⟨hl, hs⟩ := src_at h3
  have hrf := rf_pairs h
  have hco := co_pairs h
  unfold frV
  refine sort_pairsOf ?_ fun p => ?_
  · unfold frL List.Nodup
    rw [List.pairwise_flatMap]
    refine ⟨fun r _ => ?_, ?_⟩
    · refine List.pairwise_map.2 ?_
      have hn : (coV x).Nodup := by rw [hco]; exact pairsOf_nodup _ _
      rw [List.pairwise_filter]
      refine hn.imp fun {c d} hne h1 h2 e => hne ?_
      simp only [Bool.and_eq_true, beq_iff_eq, bne_iff_ne] at h1 h2
      injection e with _ e2
      exact Prod.ext (by rw [h1.1, h2.1]) e2
    · have hn : (rfV x).Pairwise fun r q => r.2 ≠ q.2 := by
        have h1 : (rfL x).Pairwise fun r q => r.2 ≠ q.2 := by
          unfold rfL
          refine List.pairwise_map.2 ((List.Pairwise.filter _ (List.nodup_range (n := x.src.length))).imp fun h e => ?_)
          dsimp only at e
          exact h (by omega)
        rw [rf_yes h]
        exact (sortP_perm (rfL x)).symm.pairwise h1 (fun h e => h e.symm)
      refine hn.imp fun {r q} hne p hp q' hq e => ?_
      subst e
      obtain ⟨c, _, rfl⟩ := List.mem_map.1 hp
      obtain ⟨d, _, e⟩ := List.mem_map.1 hq
      injection e with e1 _
      exact hne e1.symm
  · rw [mem_pairsOf]
    simp only [frL, List.mem_flatMap, List.mem_map, List.mem_filter, Bool.and_eq_true, beq_iff_eq, bne_iff_ne]
    constructor
    · rintro ⟨r, hr, c, ⟨hc, e1, e2⟩, rfl⟩
      rw [hrf, mem_pairsOf] at hr
      obtain ⟨f, a, hf, ha, hrf', rfl⟩ := hr
      rw [hco, mem_pairsOf] at hc
      obtain ⟨f', b, hf', hb, hco', rfl⟩ := hc
      dsimp only at e1 e2 ⊢
      obtain rfl : f' = f := by omega
      simp only [isRf, Bool.and_eq_true, beq_iff_eq] at hrf'
      refine ⟨a, b, ha, hb, ?_, rfl⟩
      simp only [isFr, Bool.and_eq_true, bne_iff_ne]
      refine ⟨fun e => e2 (by rw [e]), hrf'.1, ?_⟩
      rw [hrf'.2]; exact hco'
    · rintro ⟨a, b, ha, hb, hi, rfl⟩
      simp only [isFr, Bool.and_eq_true, bne_iff_ne] at hi
      obtain ⟨hne, hld, hc⟩ := hi
      rcases src_range (hs a ha) with ⟨_, h2, h4⟩ | ⟨h1, _⟩
      · refine ⟨(x.src.getD a 0, (a : Int)), ?_, (x.src.getD a 0, (b : Int)), ⟨?_, rfl, by dsimp only; omega⟩, rfl⟩
        · rw [hrf, mem_pairsOf]
          refine ⟨(x.src.getD a 0).toNat, a, by omega, ha, ?_, Prod.ext (by dsimp only; omega) rfl⟩
          simp only [isRf, Bool.and_eq_true, beq_iff_eq]
          exact ⟨hld, by omega⟩
        · rw [hco, mem_pairsOf]
          exact ⟨(x.src.getD a 0).toNat, b, by omega, hb, hc, Prod.ext (by dsimp only; omega) rfl⟩
      · rw [h1] at hld; cases hld
theorem fr_none {x : Ex} (h : ¬ checkV x = 0) : frV x = [] := by
  unfold frV; rw [co_no h, rf_no h]; simp [frL, sortP]
theorem po_none {x : Ex} (h : ¬ checkV x = 0) : poV x = [] := by unfold poV; rw [if_neg h]
end Go.Proofs.YtacnbdnmkmpldaaGreat
