/- The laws of coherence: no program in sight. -/
import Derived.Test.YtacnbdnmkmpldaaGreatFrS
namespace Go.Proofs.YtacnbdnmkmpldaaGreat
open Go.RowKit Q
set_option linter.unusedSimpArgs false
set_option linter.unusedVariables false

theorem ahead_cons {c : Int} {l : List Int} {a b : Int} : (a, b) ∈ aheadL (c :: l) ↔ (a = c ∧ b ∈ l) ∨ (a, b) ∈ aheadL l := by
  show (a, b) ∈ (l.map fun b => (c, b)) ++ aheadL l ↔ _
  rw [List.mem_append, List.mem_map]
  constructor
  · rintro (⟨d, hd, e⟩ | h)
    · injection e with e1 e2; subst e1 e2; exact .inl ⟨rfl, hd⟩
    · exact .inr h
  · rintro (⟨rfl, h⟩ | h)
    · exact .inl ⟨b, h, rfl⟩
    · exact .inr h
theorem ahead_idx : ∀ {l : List Int}, l.Nodup → ∀ {a b : Int}, (a, b) ∈ aheadL l ↔ a ∈ l ∧ b ∈ l ∧ l.idxOf a < l.idxOf b
  | [], _, a, b => by simp [aheadL]
  | c :: l, hn, a, b => by
    obtain ⟨hc, hn'⟩ := List.nodup_cons.1 hn
    rw [ahead_cons, ahead_idx hn']
    rw [List.idxOf_cons, List.idxOf_cons]
    by_cases ha : c = a
    · subst ha
      by_cases hb : c = b
      · subst hb; simp [hc]
      · have hb' : ¬ b = c := fun e => hb e.symm
        have h2 : (c == b) = false := by simp [hb]
        simp [hc, hb, hb', h2]
    · have ha' : ¬ a = c := fun e => ha e.symm
      by_cases hb : c = b
      · subst hb; simp [hc, ha, ha']
      · have hb' : ¬ b = c := fun e => hb e.symm
        have h1 : (c == a) = false := by simp [ha]
        have h2 : (c == b) = false := by simp [hb]
        simp [ha, ha', hb, hb', h1, h2]
theorem mem_insC {a d : Int} : ∀ {l : List Int}, d ∈ ins a l ↔ d = a ∨ d ∈ l
  | [] => by simp [ins]
  | b :: l => by
    unfold ins
    split
    · rw [List.mem_cons, mem_insC, List.mem_cons]
      constructor
      · rintro (h | h | h)
        · exact .inr (.inl h)
        · exact .inl h
        · exact .inr (.inr h)
      · rintro (h | h | h)
        · exact .inr (.inl h)
        · exact .inl h
        · exact .inr (.inr h)
    · split
      · rename_i h; subst h; simp
      · simp
theorem ins_sortedC {a : Int} : ∀ {l : List Int}, l.Pairwise (· < ·) → (ins a l).Pairwise (· < ·)
  | [], _ => by simp [ins]
  | b :: l, h => by
    obtain ⟨h1, h2⟩ := List.pairwise_cons.1 h
    unfold ins
    split
    · rename_i hb
      refine List.pairwise_cons.2 ⟨fun d hd => ?_, ins_sortedC h2⟩
      rcases mem_insC.1 hd with rfl | hd
      · exact hb
      · exact h1 d hd
    · split
      · exact h
      · rename_i hb1 hb2
        refine List.pairwise_cons.2 ⟨fun d hd => ?_, h⟩
        rcases List.mem_cons.1 hd with rfl | hd
        · omega
        · have := h1 d hd; omega
theorem addrs_fold (l : List Ev) : ∀ acc : List Int, acc.Pairwise (· < ·) →
    (l.foldl (fun acc e => if e.kind = 4 then acc else ins e.addr acc) acc).Pairwise (· < ·) ∧
    ∀ a, a ∈ l.foldl (fun acc e => if e.kind = 4 then acc else ins e.addr acc) acc ↔ a ∈ acc ∨ ∃ e ∈ l, e.kind ≠ 4 ∧ e.addr = a := by
  induction l with
  | nil => intro acc h; exact ⟨h, fun a => by simp⟩
  | cons e l ih =>
    intro acc h
    rw [List.foldl_cons]
    by_cases hk : e.kind = 4
    · rw [if_pos hk]
      obtain ⟨h1, h2⟩ := ih acc h
      refine ⟨h1, fun a => ?_⟩
      rw [h2]
      constructor
      · rintro (h | ⟨f, hf, h⟩)
        · exact .inl h
        · exact .inr ⟨f, List.mem_cons_of_mem _ hf, h⟩
      · rintro (h | ⟨f, hf, h⟩)
        · exact .inl h
        · rcases List.mem_cons.1 hf with rfl | hf
          · exact absurd hk h.1
          · exact .inr ⟨f, hf, h⟩
    · rw [if_neg hk]
      obtain ⟨h1, h2⟩ := ih _ (ins_sortedC (a := e.addr) h)
      refine ⟨h1, fun a => ?_⟩
      rw [h2, mem_insC]
      constructor
      · rintro ((rfl | h) | ⟨f, hf, h⟩)
        · exact .inr ⟨e, by simp, hk, rfl⟩
        · exact .inl h
        · exact .inr ⟨f, List.mem_cons_of_mem _ hf, h⟩
      · rintro (h | ⟨f, hf, h⟩)
        · exact .inl (.inr h)
        · rcases List.mem_cons.1 hf with rfl | hf
          · exact .inl (.inl h.2.symm)
          · exact .inr ⟨f, hf, h⟩
theorem addrs_sortedC (x : Ex) : (addrsOf x.evs).Pairwise (· < ·) := (addrs_fold x.evs [] List.Pairwise.nil).1
theorem mem_addrsC {x : Ex} {a : Int} : a ∈ addrsOf x.evs ↔ ∃ e ∈ x.evs, e.kind ≠ 4 ∧ e.addr = a := by
  have := (addrs_fold x.evs [] List.Pairwise.nil).2 a
  simpa [addrsOf] using this
/-- A row is the stores of its address. -/
theorem row_perm {x : Ex} (h : checkV x = 0) {k : Nat} (hk : k < x.order.length) : ∃ ha : k < (addrsOf x.evs).length, (storesAt x (addrsOf x.evs)[k]).Perm x.order[k] := by
  obtain ⟨h1, _, _, h4⟩ := check_zero h
  simp only [orderB, Bool.and_eq_true, beq_iff_eq, List.all_eq_true, List.mem_range] at h4
  obtain ⟨hlen, hall⟩ := h4
  have ha : k < (addrsOf x.evs).length := by omega
  have hk2 := hall k ha
  rw [List.getD_eq_getElem?_getD, List.getElem?_eq_getElem hk] at hk2
  simp only [orderOk, Option.getD_some, Bool.and_eq_true, beq_iff_eq] at hk2
  obtain ⟨_, _, hs⟩ := hk2
  have hp := List.mergeSort_perm x.order[k] Q.leI
  rw [hs, List.getD_eq_getElem?_getD, List.getElem?_eq_getElem ha] at hp
  exact ⟨ha, hp⟩
/-- Coherence, at an execution that may be: one ahead of the other in the row of their address. -/
theorem mem_co {x : Ex} (h : checkV x = 0) {a b : Int} : (a, b) ∈ coV x ↔ ∃ (k : Nat) (hk : k < x.order.length), (a, b) ∈ aheadL x.order[k] := by
  rw [co_yes h, mem_sortP]
  unfold coL
  rw [List.mem_flatMap]
  constructor
  · rintro ⟨l, hl, hm⟩
    obtain ⟨k, hk, rfl⟩ := List.getElem_of_mem hl
    exact ⟨k, hk, hm⟩
  · rintro ⟨k, hk, hm⟩
    exact ⟨_, List.getElem_mem hk, hm⟩
theorem row_nodup {x : Ex} (h : checkV x = 0) {k : Nat} (hk : k < x.order.length) : x.order[k].Nodup := by
  obtain ⟨ha, hp⟩ := row_perm h hk
  exact hp.nodup_iff.1 (nodup_storesAt x _)
theorem row_mem {x : Ex} (h : checkV x = 0) {k : Nat} (hk : k < x.order.length) (ha : k < (addrsOf x.evs).length) {d : Int} : d ∈ x.order[k] ↔ d ∈ storesAt x (addrsOf x.evs)[k] := by
  obtain ⟨ha', hp⟩ := row_perm h hk
  exact hp.mem_iff.symm
theorem row_len {x : Ex} (h : checkV x = 0) : x.order.length = (addrsOf x.evs).length := by
  obtain ⟨_, _, _, h4⟩ := check_zero h
  simp only [orderB, Bool.and_eq_true, beq_iff_eq] at h4
  exact h4.1
theorem addr_row {x : Ex} {i j : Nat} (hi : i < (addrsOf x.evs).length) (hj : j < (addrsOf x.evs).length) (h : (addrsOf x.evs)[i] = (addrsOf x.evs)[j]) : i = j := by
  have hs := List.pairwise_iff_getElem.1 (addrs_sortedC x)
  rcases Nat.lt_trichotomy i j with h1 | h1 | h1
  · have := hs i j hi hj h1; omega
  · exact h1
  · have := hs j i hj hi h1; omega
/-- One row holds an event. -/
theorem row_one {x : Ex} (h : checkV x = 0) {i j : Nat} (hi : i < x.order.length) (hj : j < x.order.length) {d : Int} (h1 : d ∈ x.order[i]) (h2 : d ∈ x.order[j]) : i = j := by
  have hl := row_len h
  have m1 := (row_mem h hi (by omega)).1 h1
  have m2 := (row_mem h hj (by omega)).1 h2
  obtain ⟨h0, _⟩ := mem_storesAt' m1
  obtain ⟨n, rfl⟩ := Int.eq_ofNat_of_zero_le h0
  exact addr_row (by omega) (by omega) ((mem_storesAt.1 m1).2.2.symm.trans (mem_storesAt.1 m2).2.2)
theorem co_anti {x : Ex} (h : checkV x = 0) {a b : Int} (h1 : (a, b) ∈ coV x) (h2 : (b, a) ∈ coV x) : False := by
  obtain ⟨i, hi, m1⟩ := (mem_co h).1 h1
  obtain ⟨j, hj, m2⟩ := (mem_co h).1 h2
  have p1 := (ahead_idx (row_nodup h hi)).1 m1
  have p2 := (ahead_idx (row_nodup h hj)).1 m2
  obtain rfl := row_one h hi hj p1.1 p2.2.1
  omega
theorem co_trans {x : Ex} (h : checkV x = 0) {a b c : Int} (h1 : (a, b) ∈ coV x) (h2 : (b, c) ∈ coV x) : (a, c) ∈ coV x := by
  obtain ⟨i, hi, m1⟩ := (mem_co h).1 h1
  obtain ⟨j, hj, m2⟩ := (mem_co h).1 h2
  have p1 := (ahead_idx (row_nodup h hi)).1 m1
  have p2 := (ahead_idx (row_nodup h hj)).1 m2
  obtain rfl := row_one h hi hj p1.2.1 p2.1
  exact (mem_co h).2 ⟨i, hi, (ahead_idx (row_nodup h hi)).2 ⟨p1.1, p2.2.1, by omega⟩⟩
def sameB (x : Ex) (a b : Nat) : Bool := a != b && (stores (ev x a) && (stores (ev x b) && (ev x a).addr == (ev x b).addr))
theorem co_same {x : Ex} (h : checkV x = 0) {a b : Nat} (h1 : ((a : Int), (b : Int)) ∈ coV x) : sameB x a b = true := by
  obtain ⟨i, hi, m1⟩ := (mem_co h).1 h1
  have p1 := (ahead_idx (row_nodup h hi)).1 m1
  have hl := row_len h
  have m2 := mem_storesAt.1 ((row_mem h hi (by omega)).1 p1.1)
  have m3 := mem_storesAt.1 ((row_mem h hi (by omega)).1 p1.2.1)
  have hne : a ≠ b := by rintro rfl; omega
  simp only [sameB, Bool.and_eq_true, bne_iff_ne, beq_iff_eq]
  exact ⟨hne, m2.2.1, m3.2.1, m2.2.2.trans m3.2.2.symm⟩
theorem stores_kind {e : Ev} (h : stores e = true) : e.kind ≠ 4 := by
  intro h4
  simp [stores, h4] at h
theorem co_total {x : Ex} (h : checkV x = 0) {a b : Nat} (ha : a < x.evs.length) (hb : b < x.evs.length) (hs : sameB x a b = true) : ((a : Int), (b : Int)) ∈ coV x ∨ ((b : Int), (a : Int)) ∈ coV x := by
  simp only [sameB, Bool.and_eq_true, bne_iff_ne, beq_iff_eq] at hs
  obtain ⟨hne, s1, s2, had⟩ := hs
  have hl := row_len h
  have hea : ev x a = x.evs[a] := by simp [ev, List.getD_eq_getElem?_getD, ha]
  have hmem : (ev x a).addr ∈ addrsOf x.evs := mem_addrsC.2 ⟨x.evs[a], List.getElem_mem ha, by rw [← hea]; exact stores_kind s1, by rw [hea]⟩
  obtain ⟨k, hk, hke⟩ := List.getElem_of_mem hmem
  have hk2 : k < x.order.length := by omega
  have m1 : (a : Int) ∈ x.order[k] := (row_mem h hk2 hk).2 (mem_storesAt.2 ⟨ha, s1, hke.symm⟩)
  have m2 : (b : Int) ∈ x.order[k] := (row_mem h hk2 hk).2 (mem_storesAt.2 ⟨hb, s2, by rw [← had, hke]⟩)
  rcases Nat.lt_trichotomy (x.order[k].idxOf (a : Int)) (x.order[k].idxOf (b : Int)) with h1 | h1 | h1
  · exact .inl ((mem_co h).2 ⟨k, hk2, (ahead_idx (row_nodup h hk2)).2 ⟨m1, m2, h1⟩⟩)
  · exfalso
    have e1 := List.getElem_idxOf (List.idxOf_lt_length_of_mem m1)
    have e2 := List.getElem_idxOf (List.idxOf_lt_length_of_mem m2)
    simp only [h1] at e1
    have : (a : Int) = b := e1.symm.trans e2
    omega
  · exact .inr ((mem_co h).2 ⟨k, hk2, (ahead_idx (row_nodup h hk2)).2 ⟨m2, m1, h1⟩⟩)
/-- The law's first question, at two places. -/
theorem co_table {x : Ex} (h : checkV x = 0) {a b : Nat} (ha : a < x.evs.length) (hb : b < x.evs.length) :
    sameB x a b = (decide (((a : Int), (b : Int)) ∈ coV x) != decide (((b : Int), (a : Int)) ∈ coV x)) ∧ (sameB x a b = false → decide (((a : Int), (b : Int)) ∈ coV x) = false) := by
  have key : sameB x a b = false → decide (((a : Int), (b : Int)) ∈ coV x) = false := fun hs => decide_eq_false (fun hm => by rw [co_same h hm] at hs; cases hs)
  refine ⟨?_, key⟩
  cases hs : sameB x a b with
  | false =>
    have hs2 : ¬ ((b : Int), (a : Int)) ∈ coV x := fun hm => by
      have := co_same h hm
      simp only [sameB, Bool.and_eq_true, bne_iff_ne, beq_iff_eq] at this
      rw [← Bool.not_eq_true] at hs
      apply hs
      simp only [sameB, Bool.and_eq_true, bne_iff_ne, beq_iff_eq]
      exact ⟨fun e => this.1 e.symm, this.2.2.1, this.2.1, this.2.2.2.symm⟩
    rw [key hs, decide_eq_false hs2]; rfl
  | true =>
    rcases co_total h ha hb hs with h1 | h1
    · rw [decide_eq_true h1, decide_eq_false (fun h2 => co_anti h h1 h2)]; rfl
    · rw [decide_eq_true h1, decide_eq_false (fun h2 => co_anti h h1 h2)]; rfl
/-- No way back from Fr. -/
theorem fr_rf {x : Ex} (h : checkV x = 0) {p q : Int × Int} (hp : p ∈ frV x) (hq : q ∈ rfV x) : ¬ (p.1 = q.2 ∧ p.2 = q.1) := by
  rintro ⟨e1, e2⟩
  unfold frV at hp
  rw [mem_sortP] at hp
  obtain ⟨r, hr, hp⟩ := List.mem_flatMap.1 hp
  obtain ⟨c, hc, rfl⟩ := List.mem_map.1 hp
  obtain ⟨hc1, hc2⟩ := List.mem_filter.1 hc
  simp only [Bool.and_eq_true, beq_iff_eq, bne_iff_ne] at hc2
  rw [rf_yes h, mem_sortP] at hr hq
  simp only [rfL, List.mem_map, List.mem_filter, List.mem_range] at hr hq
  obtain ⟨m, _, rfl⟩ := hr
  obtain ⟨n, _, rfl⟩ := hq
  dsimp only at e1 e2 hc2
  have hmn : m = n := by omega
  subst hmn
  have hcc : c = (c.1, c.1) := by
    obtain ⟨c1, c2⟩ := c
    dsimp only at e2 hc2 ⊢
    rw [e2, hc2.1]
  rw [hcc] at hc1
  exact co_anti h hc1 hc1
end Go.Proofs.YtacnbdnmkmpldaaGreat
