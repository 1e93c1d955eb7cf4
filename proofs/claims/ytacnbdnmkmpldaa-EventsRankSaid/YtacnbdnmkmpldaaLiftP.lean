/- From the reading of an argument to what lies in memory: rows of pairs. -/
import Derived.Test.YtacnbdnmkmpldaaSortP
namespace Go.Proofs.Ytacnbdnmkmpldaa
open Go Go.Proofs Go.ChangeShapes Go.WideShapes Go.Deep Go.RowKit Q
set_option linter.unusedSimpArgs false
set_option linter.unusedVariables false

section
variable {H : Type} {enc : TypeId × Value → H} {P : Program} {w : World}

/-- What the types of a pair's parts are. -/
structure PrTypes (P : Program) (te : TypeId) : Prop where
  ex : ∃ (fs : Array Field) (ti : TypeId), P.underlying te = some (.struct fs) ∧ oneCellFields P fs = true ∧ P.cellsOf te = 2 ∧ fs.toList.map (·.type) = [ti, ti] ∧ P.underlying ti = some (.int .i64)

theorem lift_pair {te : TypeId} (T : PrTypes P te) {fuel : Nat} {cs : List Value} {x : DataW H × List MemPlace} (h : DataW.trod enc P w 0 (fun _ => true) true fuel te cs = some x) (hf : Fits P te x.1) :
    ∃ a b : Int, cs[0]? = some (.int .i64 a) ∧ cs[1]? = some (.int .i64 b) ∧ i64R a ∧ i64R b := by
  obtain ⟨fs, ti, hu, hone, hC, hts, hti⟩ := T.ex
  have hsz : fs.size = 2 := by have := congrArg List.length hts; simpa using this
  obtain ⟨hlen, hg⟩ := lift_struct hu hone (by omega) h hf
  have num : ∀ (j : Nat), [ti, ti][j]? = some ti → ∃ z, cs[j]? = some (.int .i64 z) ∧ i64R z := by
    intro j hj
    rw [← hts, List.getElem?_map, Array.getElem?_toList] at hj
    cases hfj : fs[j]? with
    | none => rw [hfj] at hj; cases hj
    | some f =>
      rw [hfj] at hj
      injection hj with hj
      obtain ⟨v, n, y, hv, ht, _⟩ := hg j f hfj
      rw [show f.type = ti from hj] at ht
      obtain ⟨z, hz, _, hw⟩ := DataW.trod_int hti ht
      injection hz with hz; subst hz
      exact ⟨z, hv, wf_i64 hw⟩
  obtain ⟨a, a0, a1⟩ := num 0 rfl
  obtain ⟨b, b0, b1⟩ := num 1 rfl
  exact ⟨a, b, a0, b0, a1, b1⟩

theorem lift_prs {t te : TypeId} (ht : P.underlying t = some (.slice te)) (T : PrTypes P te) (hb : 8 ≤ P.bytesOf te) {fuel : Nat} {v : Value} {x : DataW H × List MemPlace}
    (h : DataW.trod enc P w 0 (fun _ => true) true fuel t [v] = some x) (hf : Fits P t x.1) : ∃ (A : Option Addr) (c : Nat) (l : List (Int × Int)), v = .slice A l.length c ∧ Prs w A l ∧ ∀ p ∈ l, i64R p.1 ∧ i64R p.2 := by
  have hC : P.cellsOf te = 2 := by obtain ⟨_, _, _, _, hC, _⟩ := T.ex; exact hC
  rcases open_slice ht h with ⟨hcs, _⟩ | ⟨a, len, cap, m, n, D, Pl, hcs, _, hl, hm, hmm, hx, hi⟩
  · injection hcs with hcs; subst hcs
    exact ⟨none, 0, [], rfl, ⟨by simp, fun h => by simp at h⟩, by simp⟩
  · injection hcs with hcs; subst hcs
    subst hx
    rw [hC] at hi
    obtain ⟨hsz, hfe⟩ := fits_slice ht hf
    simp only [List.length_map, List.length_range, reachBytes] at hsz
    rw [if_pos rfl] at hmm
    subst hmm
    have hlen : (len + (m - len)) * 8 ≤ 140737488351232 := Nat.le_trans (Nat.mul_le_mul_left _ hb) hsz
    obtain ⟨E, hE⟩ := choose_lt (α := Int × Int) (p := fun i e => w.cell? ((a.add (i * 2)).add 0) = some (.int .i64 e.1) ∧ w.cell? ((a.add (i * 2)).add 1) = some (.int .i64 e.2) ∧ i64R e.1 ∧ i64R e.2) (n := len) (fun i hil => by
      obtain ⟨cs', h1, h2⟩ := hi i (by omega)
      obtain ⟨p, q, h3, h4, h5, h6⟩ := lift_pair T h2 (hfe _ (List.mem_map.2 ⟨i, List.mem_range.2 hil, rfl⟩))
      have hc := (World.cells?_some h1).2.2
      exact ⟨(p, q), (hc 0 (by omega)).trans h3, (hc 1 (by omega)).trans h4, h5, h6⟩)
    refine ⟨some a, m, (List.range len).map E, by simp, ⟨by simp; omega, fun hp => ?_⟩, ?_⟩
    · simp only [List.length_map, List.length_range] at hp ⊢
      have h0 := (hE 0 hp).1
      have hs : a.spot = none := by simpa [Addr.add] using World.cell?_spot h0
      refine ⟨a.block, a.off, by rw [← hs], fun j hj => ?_⟩
      obtain ⟨h1, h2, _⟩ := hE j hj
      rw [getD_map_range _ _ _ _ hj]
      rw [add_at a hs, add_at _ rfl] at h1 h2
      exact ⟨h1, h2⟩
    · intro p hp
      obtain ⟨i, hi', rfl⟩ := List.mem_map.1 hp
      have := hE i (List.mem_range.1 hi')
      exact ⟨this.2.2.1, this.2.2.2⟩
end
end Go.Proofs.Ytacnbdnmkmpldaa
