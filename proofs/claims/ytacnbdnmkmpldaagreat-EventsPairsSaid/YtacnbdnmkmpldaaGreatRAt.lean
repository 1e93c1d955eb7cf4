/- The reference's At: where a number stands in a list. -/
import Derived.Test.YtacnbdnmkmpldaaGreatEvC
namespace Go.Proofs.YtacnbdnmkmpldaaGreat
open Go Go.Proofs Go.RowKit Q
set_option linter.unusedSimpArgs false
set_option linter.unusedVariables false

def atV (l : List Int) (n : Int) : Int := if n ∈ l then (l.idxOf n : Int) else -1
theorem atV_neg {l : List Int} {n : Int} : atV l n < 0 ↔ n ∉ l := by
  unfold atV; split
  · constructor
    · intro h; omega
    · intro h; contradiction
  · simp_all
theorem atV_hit {l : List Int} {n : Int} {k : Nat} (hk : k < l.length) (hn : l[k]?.getD 0 = n) (hb : ∀ j, j < k → l[j]?.getD 0 ≠ n) : atV l n = k := by
  rw [List.getElem?_eq_getElem hk] at hn
  have hn : l[k] = n := hn
  have hm : n ∈ l := by rw [← hn]; exact List.getElem_mem hk
  have hi : l.idxOf n = k := by
    have h1 := List.idxOf_lt_length_of_mem hm
    rcases Nat.lt_trichotomy (l.idxOf n) k with h | h | h
    · have := hb _ h
      rw [List.getElem?_eq_getElem h1] at this
      exact absurd (List.getElem_idxOf h1) this
    · exact h
    · have h3 := List.not_of_lt_findIdx (p := fun d => d == n) (xs := l) (i := k) h
      simp [hn] at h3
  unfold atV; rw [if_pos hm, hi]
theorem atV_miss {l : List Int} {n : Int} (hb : ∀ j, j < l.length → l[j]?.getD 0 ≠ n) : atV l n = -1 := by
  unfold atV
  rw [if_neg]
  intro hm
  obtain ⟨j, hj, e⟩ := List.getElem_of_mem hm
  have := hb j hj
  rw [List.getElem?_eq_getElem hj] at this
  exact this e

set_option maxRecDepth 100000 in
set_option maxHeartbeats 2000000 in
theorem at_any (l : List Int) (A : Option Addr) (c : Nat) (n : Int) (w : World) (hl : Ints w A l) :
    Calls Tryz.prog 66 #[.slice A l.length c, .int .i64 n] w fun e w' => e = .returned (.int .i64 (atV l n)) ∧ w = w' := by
  have hl0 := hl.1
  go_enter Tryz.func66, Tryz.ntmps66
  go_wp2
  go_loop [5] (fun i => ∃ k : Nat, k ≤ l.length ∧ i = .int .i64 k ∧ ∀ j, j < k → l[j]?.getD 0 ≠ n) (fun i => l.length - (intOf i).toNat)
  case atStart => exact ⟨0, Nat.zero_le _, rfl, fun j hj => by omega⟩
  case round =>
    obtain ⟨k, hk, rfl, hb⟩ := hrel
    have HB := Lib.hid hb
    clear hb
    by_cases hlt : k < l.length
    · obtain ⟨b, off, rfl, hc⟩ := hl.2 (by omega)
      have hck := hc k hlt
      obtain ⟨d, hd⟩ : ∃ d, l[k]?.getD 0 = d := ⟨_, rfl⟩
      rw [hd] at hck
      have HD := Lib.hid hd
      clear hd hc
      by_cases hdn : d = n
      · have q : (d == n) = true := by simp [hdn]
        have HDN := Lib.hid hdn
        clear hdn
        go_wp2
        go_ret
        exact ⟨ret_int (atV_hit hlt (HD.out.trans HDN.out) HB.out), rfl⟩
      · have q : (d == n) = false := by simp [hdn]
        have HDN := Lib.hid hdn
        clear hdn
        go_wp2
        go_round
        case rel => exact ⟨k + 1, by omega, by go_num, fun j hj => by
          by_cases hjk : j = k
          · subst hjk; rw [HD.out]; exact HDN.out
          · exact HB.out j (by omega)⟩
        case measure => simp [intOf]; omega
    · obtain rfl : k = l.length := by omega
      go_wp2
      go_ret
      exact ⟨ret_int (atV_miss HB.out), rfl⟩
end Go.Proofs.YtacnbdnmkmpldaaGreat
