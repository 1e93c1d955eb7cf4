/- From the reading of an argument to what lies in memory: the rows' capacities. -/
import Derived.Test.YtacnbdnmkmpldaaCoS
namespace Go.Proofs.Ytacnbdnmkmpldaa
open Go Go.Proofs Go.ChangeShapes Go.WideShapes Go.Deep Go.RowKit Q
set_option linter.unusedSimpArgs false
set_option linter.unusedVariables false

section
variable {H : Type} {enc : TypeId × Value → H} {P : Program} {w : World}

theorem lift_caps {t ts : TypeId} (ht : P.underlying t = some (.slice ts)) {ti : TypeId} (hs : P.underlying ts = some (.slice ti)) (hcs : P.cellsOf ts = 1) {fuel : Nat} {A : Option Addr} {m c : Nat} {x : DataW H × List MemPlace}
    (h : DataW.trod enc P w 0 (fun _ => true) true fuel t [.slice A m c] = some x) : CapsOk w A m := by
  intro b off hA j hj B n cc hc
  rcases open_slice1 ht hcs h with ⟨hcs', _⟩ | ⟨a, len, cap, m', n', V, D, Pl, hcs', _, hl, hm, hmm, hx, hi⟩
  · injection hcs' with e; injection e with e1 e2 e3
    omega
  · injection hcs' with e; injection e with e1 e2 e3
    subst e1 e2 e3
    injection hA with hA; subst hA
    rw [if_pos rfl] at hmm
    subst hmm
    obtain ⟨h1, h2⟩ := hi j (by omega)
    have hadd : (⟨b, off, none⟩ : Addr).add j = ⟨b, off + j, none⟩ := add_at _ rfl j
    rw [hadd, hc] at h1
    injection h1 with h1
    rw [← h1] at h2
    rcases open_slice hs h2 with ⟨e, _⟩ | ⟨a2, len2, cap2, m2, n2, D2, Pl2, e, _, hl2, hm2, _⟩
    · injection e with e; injection e with _ e2 e3; omega
    · injection e with e; injection e with _ e2 e3
      omega
theorem lift_ex_caps {tx : TypeId} (T : ExTypes P tx) {fuel : Nat} {x : DataW H × List MemPlace} {Ae Af Ao : Option Addr} {ne nf no ce cf co : Nat}
    (h : DataW.trod enc P w 0 (fun _ => true) true fuel tx [.slice Ae ne ce, .slice Af nf cf, .slice Ao no co] = some x) (hf : Fits P tx x.1) : CapsOk w Ao no := by
  obtain ⟨fs, tl, te, ts, tr, ti, hu, hone, hC, hts, htl, hE, hbe, hts', hti, hci, hbi, htr, hcs, hbs⟩ := T.ex
  have hsz : fs.size = 3 := by have := congrArg List.length hts; simpa using this
  obtain ⟨hlen, hg⟩ := lift_struct hu hone (by omega) h hf
  have hj : [tl, ts, tr][2]? = some tr := rfl
  rw [← hts, List.getElem?_map, Array.getElem?_toList] at hj
  cases hfj : fs[2]? with
  | none => rw [hfj] at hj; cases hj
  | some f =>
    rw [hfj] at hj
    injection hj with hj
    obtain ⟨v, n, y, e2, h2, _⟩ := hg 2 f hfj
    rw [show f.type = tr from hj] at h2
    simp only [List.getElem?_cons_zero, List.getElem?_cons_succ, Option.some.injEq] at e2
    subst e2
    exact lift_caps htr hts' hcs h2
end
end Go.Proofs.Ytacnbdnmkmpldaa
