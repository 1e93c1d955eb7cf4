/- EventsRank: the law's walk. -/
import Derived.Test.YtacnbdnmkmpldaaClA
import Derived.Test.YtacnbdnmkmpldaaEvF
import Derived.Deep.RegionHeld3
import Derived.Deep.AppendLies
namespace Go.Proofs.Ytacnbdnmkmpldaa
open Go Go.Proofs Go.RowKit Q
set_option linter.unusedSimpArgs false
set_option linter.unusedVariables false

theorem lexRank8 : Region.lexB .any (opsOf Try.f5 8) = true := by kernel_rfl
theorem lexRank9 : Region.lexB .any (opsOf Try.f5 9) = true := by kernel_rfl

/-- Does an arrow go up? -/
def upB (ranks : List Int) (q : Int × Int) : Bool :=
  decide (0 ≤ q.1) && (decide (q.1 < ranks.length) && (decide (0 ≤ q.2) && (decide (q.2 < ranks.length) && decide (ranks[q.1.toNat]?.getD 0 < ranks[q.2.toNat]?.getD 0))))
def upTo (ranks : List Int) (l : List (Int × Int)) (k : Nat) : List (Int × Int) := (l.take k).filter (upB ranks)
theorem upTo_yes {ranks : List Int} {l : List (Int × Int)} {k : Nat} {x : Int × Int} (hk : k < l.length) (hx : l[k]?.getD (0, 0) = x) (h : upB ranks x = true) : upTo ranks l (k + 1) = upTo ranks l k ++ [x] := by
  rw [List.getElem?_eq_getElem hk] at hx
  unfold upTo
  rw [List.take_add_one, List.getElem?_eq_getElem hk, List.filter_append]
  simp only [Option.toList_some]
  rw [show l[k] = x from hx]; simp [h]
theorem upTo_no {ranks : List Int} {l : List (Int × Int)} {k : Nat} {x : Int × Int} (hk : k < l.length) (hx : l[k]?.getD (0, 0) = x) (h : upB ranks x = false) : upTo ranks l (k + 1) = upTo ranks l k := by
  rw [List.getElem?_eq_getElem hk] at hx
  unfold upTo
  rw [List.take_add_one, List.getElem?_eq_getElem hk, List.filter_append]
  simp only [Option.toList_some]
  rw [show l[k] = x from hx]; simp [h]
theorem upTo_len (ranks : List Int) (l : List (Int × Int)) (k : Nat) : (upTo ranks l k).length ≤ k := by
  have := List.length_filter_le (upB ranks) (l.take k)
  have h2 := List.length_take_le k l
  unfold upTo; omega
theorem up_in {ranks : List Int} {l : List (Int × Int)} {k : Nat} : ∀ q ∈ upTo ranks l k, ((0 ≤ q.1 ∧ q.1 < ranks.length) ∧ 0 ≤ q.2 ∧ q.2 < ranks.length) ∧ ranks[q.1.toNat]?.getD 0 < ranks[q.2.toNat]?.getD 0 := by
  intro q hq
  have := (List.mem_filter.1 hq).2
  simp only [upB, Bool.and_eq_true, decide_eq_true_eq] at this
  omega
theorem rank_up {ranks : List Int} {l : List (Int × Int)} {k : Nat} (h30 : ranks.length ≤ 30) (hr : ∀ d ∈ ranks, i64R d) : acyclicV ranks.length (upTo ranks l k) = true := by
  rw [acyclicV_iff]
  refine ⟨⟨by omega, by omega, fun p hp => (up_in p hp).1⟩, fun u => (ranks[u.toNat]?.getD 0 + 9223372036854775808).toNat, fun p hp => ?_⟩
  obtain ⟨⟨⟨h1, h2⟩, h3, h4⟩, h5⟩ := up_in p hp
  have hm : ∀ u : Int, 0 ≤ u → u < ranks.length → i64R (ranks[u.toNat]?.getD 0) := fun u a b => by
    rw [List.getElem?_eq_getElem (by omega : u.toNat < ranks.length)]
    exact hr _ (List.getElem_mem _)
  have := hm p.1 h1 h2
  have := hm p.2 h3 h4
  simp only [i64R] at *
  omega
theorem rank_back {ranks : List Int} {l : List (Int × Int)} {k : Nat} {x : Int × Int} (hne : 0 < (upTo ranks l k).length) (hx : (upTo ranks l k)[0]?.getD (0, 0) = x) : acyclicV ranks.length (upTo ranks l k ++ [(x.2, x.1)]) = false := by
  rw [← Bool.not_eq_true, acyclicV_iff]
  rintro ⟨_, rank, hr⟩
  have hm : x ∈ upTo ranks l k := by
    rw [List.getElem?_eq_getElem hne] at hx
    rw [← (show (upTo ranks l k)[0] = x from hx)]; exact List.getElem_mem hne
  have h1 := hr x (List.mem_append_left _ hm)
  have h2 := hr (x.2, x.1) (List.mem_append_right _ (by simp))
  dsimp only at h2
  omega
theorem owned_prs {w : World} {base : Nat} {e : TypeId} {v : Value} {l : List (Int × Int)} (h : w.ownsRow base e 2 v l.length (l.flatMap cellsP)) (hl : l.length ≤ 17592186044416) : ∃ A c, v = .slice A l.length c ∧ Prs w A l := by
  rcases h.2 with ⟨rfl, hz⟩ | ⟨g, c, cur, rfl, r⟩
  · exact ⟨none, 0, by rw [hz], hl, fun hp => by omega⟩
  · exact ⟨_, c, rfl, prs_of_owned hl h⟩

theorem owned_news {W : World} {base : Nat} {e : TypeId} {size n : Nat} {g cap : Nat} {xs : List Value} (h : W.ownsRow base e size (.slice (some ⟨g, 0, none⟩) n cap) n xs) :
    ∀ j u, xs[j]? = some u → W.cell? ((⟨g, 0, none⟩ : Addr).add j) = some u := by
  rcases h.2 with ⟨h, _⟩ | ⟨g', cp, cur, e', _, hb, _, _, _, ht⟩
  · cases h
  injection e' with e1 _ _; injection e1 with e1; injection e1 with e1; subst e1
  intro j u hj
  have hadd : (⟨g, 0, none⟩ : Addr).add j = ⟨g, j, none⟩ := by unfold Addr.add; split <;> simp_all
  rw [hadd, cell_of_row W g j cur e (0, 0) hb]
  rw [← ht, List.getElem?_take] at hj
  split at hj
  · simpa using hj
  · cases hj
theorem one_flatP (l : List (Int × Int)) : ∀ u ∈ l.flatMap cellsP, u.oneCell' = true := fun u hu => by
  obtain ⟨p, _, hp⟩ := List.mem_flatMap.1 hu
  exact one_cellsP p u hp
theorem len_flatP (l : List (Int × Int)) : (l.flatMap cellsP).length = l.length * 2 := by
  induction l with
  | nil => rfl
  | cons p l ih => simp only [List.flatMap_cons, List.length_append, List.length_cons, ih, cellsP, List.length_nil]; omega

set_option maxRecDepth 100000 in
set_option maxHeartbeats 4000000 in
theorem evRank_walk (ranks : List Int) (hr : ∀ d ∈ ranks, i64R d) (Ar : Option Addr) (cr : Nat) (l : List (Int × Int)) (A : Option Addr) (c : Nat) (w : World) (hrk : Ints w Ar ranks) (hl : Prs w A l) :
    Calls Try.prog 5 #[.slice Ar ranks.length cr, .slice A l.length c] w fun r w' => r = .returned (.bool true) ∧ Below w.heap.size w w' := by
  have hl0 := hl.1
  have hr0 := hrk.1
  obtain ⟨i0, hi, hz0, hz1, hz2⟩ := info_parts infoP
  go_enter Try.func5, Try.ntmps5
  by_cases h1 : 30 < ranks.length
  · have q : decide ((30 : Int) < (ranks.length : Int)) = true := decide_eq_true (by omega)
    go_wp2_with (go_at_call 10; refine (known_any _).mono ?_; rintro e w' ⟨rfl, hb⟩)
    go_ret
    exact ⟨rfl, hb⟩
  have q1 : decide ((30 : Int) < (ranks.length : Int)) = false := decide_eq_false (by omega)
  by_cases h2 : 120 < l.length
  · have q : decide ((120 : Int) < (l.length : Int)) = true := decide_eq_true (by omega)
    go_wp2_with (go_at_call 10; refine (known_any _).mono ?_; rintro e w' ⟨rfl, hb⟩)
    go_ret
    exact ⟨rfl, hb⟩
  have q2 : decide ((120 : Int) < (l.length : Int)) = false := decide_eq_false (by omega)
  have HR := Lib.hid hr
  clear hr
  go_wp2
  go_loopw [6, 7] (fun v i wr => ∃ k : Nat, k ≤ l.length ∧ i = .int .i64 k ∧ Below w.heap.size w wr ∧ wr.ownsRow w.heap.size 34 2 v (upTo ranks l k).length ((upTo ranks l k).flatMap cellsP)) (fun _ i _ => l.length - (intOf i).toNat)
  case atStart => exact ⟨0, Nat.zero_le _, rfl, Below.refl _ _, World.ownsRow_nil _ _ _ _⟩
  case round =>
    obtain ⟨k, hk, rfl, hB, hown⟩ := hrel
    have hln := upTo_len ranks l k
    by_cases hkl : k < l.length
    · obtain ⟨b, off, rfl, hcs⟩ := (hl.below hB).2 (by omega)
      obtain ⟨hc0, hc1⟩ := hcs k hkl
      obtain ⟨x, hx⟩ : ∃ x, l[k]?.getD (0, 0) = x := ⟨_, rfl⟩
      rw [hx] at hc0 hc1
      obtain ⟨x0, x1⟩ := x
      dsimp only at hc0 hc1
      have f0 : ∀ t : Fut wr, t.val.cell? ⟨b, off + k * 2, none⟩ = some (.int .i64 x0) := fun t => t.cell hc0
      have f1 : ∀ t : Fut wr, t.val.cell? ⟨b, off + k * 2 + 1, none⟩ = some (.int .i64 x1) := fun t => t.cell hc1
      have HX := Lib.hid hx
      have HOWN := Lib.hid hown
      have HB := Lib.hid hB
      have HRK := Lib.hid (hrk.below hB)
      clear hcs hx hc0 hc1 hl hrk hown hB
      go_upto_region 8 with (fail)
      refine wp_region_futs (⟨wr, Below.refl _ _⟩ : Fut wr) (by kernel_rfl) (lexOf lexRank8 (by kernel_rfl)) ?_
      repeat (go_big_quiet_step (fail))
      refine wpQuiet_nil ?_
      intro s2
      by_cases y1 : 0 ≤ x0
      case neg =>
        have z1 : decide (x0 ≥ 0) = false := decide_eq_false (by omega)
        have z2 : decide (0 ≤ x0) = false := decide_eq_false (by omega)
        have hup : upB ranks (x0, x1) = false := by rw [Bool.eq_false_iff]; intro h; simp only [upB, Bool.and_eq_true, decide_eq_true_eq] at h; omega
        have HUP := Lib.hid hup
        clear hup
        go_upto_region 9 with (fail)
        refine wp_region_futs s2 (by kernel_rfl) (lexOf lexRank9 (by kernel_rfl)) ?_
        repeat (go_big_quiet_step (fail))
        refine wpQuiet_nil ?_
        intro s3
        go_wp2
        go_roundw
        case rel => exact ⟨k + 1, by omega, by go_num, HB.out.trans (s3.below.mono HB.out.size), by rw [upTo_no hkl HX.out HUP.out]; exact owned_below HOWN.out s3.below⟩
        case measure => simp [intOf]; omega
      obtain ⟨m0, rfl⟩ := Int.eq_ofNat_of_zero_le y1
      by_cases y2 : m0 < ranks.length
      case neg =>
        have z1 : decide ((m0 : Int) ≥ 0) = true := decide_eq_true (by omega)
        have z2 : decide ((0 : Int) ≤ m0) = true := decide_eq_true (by omega)
        have z3 : decide ((m0 : Int) < (ranks.length : Int)) = false := decide_eq_false (by omega)
        have hup : upB ranks (m0, x1) = false := by rw [Bool.eq_false_iff]; intro h; simp only [upB, Bool.and_eq_true, decide_eq_true_eq] at h; omega
        have HUP := Lib.hid hup
        clear hup
        go_upto_region 9 with (fail)
        refine wp_region_futs s2 (by kernel_rfl) (lexOf lexRank9 (by kernel_rfl)) ?_
        repeat (go_big_quiet_step (fail))
        refine wpQuiet_nil ?_
        intro s3
        go_wp2
        go_roundw
        case rel => exact ⟨k + 1, by omega, by go_num, HB.out.trans (s3.below.mono HB.out.size), by rw [upTo_no hkl HX.out HUP.out]; exact owned_below HOWN.out s3.below⟩
        case measure => simp [intOf]; omega
      have z1 : decide ((m0 : Int) ≥ 0) = true := decide_eq_true (by omega)
      have z2 : decide ((0 : Int) ≤ m0) = true := decide_eq_true (by omega)
      have z3 : decide ((m0 : Int) < (ranks.length : Int)) = true := decide_eq_true (by omega)
      by_cases y3 : 0 ≤ x1
      case neg =>
        have z4 : decide (x1 ≥ 0) = false := decide_eq_false (by omega)
        have z5 : decide (0 ≤ x1) = false := decide_eq_false (by omega)
        have hup : upB ranks (m0, x1) = false := by rw [Bool.eq_false_iff]; intro h; simp only [upB, Bool.and_eq_true, decide_eq_true_eq] at h; omega
        have HUP := Lib.hid hup
        clear hup
        go_upto_region 9 with (fail)
        refine wp_region_futs s2 (by kernel_rfl) (lexOf lexRank9 (by kernel_rfl)) ?_
        repeat (go_big_quiet_step (fail))
        refine wpQuiet_nil ?_
        intro s3
        go_wp2
        go_roundw
        case rel => exact ⟨k + 1, by omega, by go_num, HB.out.trans (s3.below.mono HB.out.size), by rw [upTo_no hkl HX.out HUP.out]; exact owned_below HOWN.out s3.below⟩
        case measure => simp [intOf]; omega
      obtain ⟨m1, rfl⟩ := Int.eq_ofNat_of_zero_le y3
      have z4 : decide ((m1 : Int) ≥ 0) = true := decide_eq_true (by omega)
      have z5 : decide ((0 : Int) ≤ m1) = true := decide_eq_true (by omega)
      by_cases y4 : m1 < ranks.length
      case neg =>
        have z6 : decide ((m1 : Int) < (ranks.length : Int)) = false := decide_eq_false (by omega)
        have hup : upB ranks (m0, m1) = false := by rw [Bool.eq_false_iff]; intro h; simp only [upB, Bool.and_eq_true, decide_eq_true_eq] at h; omega
        have HUP := Lib.hid hup
        clear hup
        go_upto_region 9 with (fail)
        refine wp_region_futs s2 (by kernel_rfl) (lexOf lexRank9 (by kernel_rfl)) ?_
        repeat (go_big_quiet_step (fail))
        refine wpQuiet_nil ?_
        intro s3
        go_wp2
        go_roundw
        case rel => exact ⟨k + 1, by omega, by go_num, HB.out.trans (s3.below.mono HB.out.size), by rw [upTo_no hkl HX.out HUP.out]; exact owned_below HOWN.out s3.below⟩
        case measure => simp [intOf]; omega
      have z6 : decide ((m1 : Int) < (ranks.length : Int)) = true := decide_eq_true (by omega)
      obtain ⟨br, ofr, rfl, hcr⟩ := HRK.out.2 (by omega)
      have g0 := hcr m0 y2
      have g1 := hcr m1 y4
      have hub : upB ranks (m0, m1) = decide (ranks[m0]?.getD 0 < ranks[m1]?.getD 0) := by
        unfold upB; dsimp only
        rw [decide_eq_true (show (0 : Int) ≤ m0 by omega), decide_eq_true (show (m0 : Int) < ranks.length by omega), decide_eq_true (show (0 : Int) ≤ m1 by omega), decide_eq_true (show (m1 : Int) < ranks.length by omega)]
        simp
      generalize ranks[m0]?.getD 0 = r0 at g0 hub
      generalize ranks[m1]?.getD 0 = r1 at g1 hub
      have k0 : ∀ t : Fut wr, t.val.cell? ⟨br, ofr + m0, none⟩ = some (.int .i64 r0) := fun t => t.cell g0
      have k1 : ∀ t : Fut wr, t.val.cell? ⟨br, ofr + m1, none⟩ = some (.int .i64 r1) := fun t => t.cell g1
      clear hcr g0 g1
      by_cases y5 : r0 < r1
      case neg =>
        have z7 : decide (r0 < r1) = false := decide_eq_false y5
        have HUP := Lib.hid (hub.trans z7)
        clear hub
        go_upto_region 9 with (fail)
        refine wp_region_futs s2 (by kernel_rfl) (lexOf lexRank9 (by kernel_rfl)) ?_
        repeat (go_big_quiet_step (fail))
        refine wpQuiet_nil ?_
        intro s3
        go_wp2
        go_roundw
        case rel => exact ⟨k + 1, by omega, by go_num, HB.out.trans (s3.below.mono HB.out.size), by rw [upTo_no hkl HX.out HUP.out]; exact owned_below HOWN.out s3.below⟩
        case measure => simp [intOf]; omega
      have z7 : decide (r0 < r1) = true := decide_eq_true y5
      have HUP := Lib.hid (hub.trans z7)
      clear hub
      go_upto_region 9 with (fail)
      refine wp_region_futs s2 (by kernel_rfl) (lexOf lexRank9 (by kernel_rfl)) ?_
      repeat (go_big_quiet_step (fail))
      refine wpQuiet_nil ?_
      intro s3
      have hown3 := owned_below HOWN.out s3.below
      have hB3 := HB.out.trans (s3.below.mono HB.out.size)
      have e0 := f0 s3
      have e1 := f1 s3
      have hs3 := hB3.size
      clear f0 f1 k0 k1
      go_wp2_with (at_builtin; refine wpList_append_own _ rfl _ _ 32 rfl w.heap.size 34 i0 (.agg #[.int .i64 0, .int .i64 0]) 2 16 Try.underlying32 hi hz0 hz1 hz2 rfl (by decide) _ _ _ rfl (hown3.alloc _) ⟨s3.val.heap.size, 0, none⟩ 1 1 (cellsP (m0, m1)) rfl rfl (cells_pair_new _ _ _ _) (one_cellsP _) (by unfold maxLen; omega) (by omega) (by simp; omega) ?_; intro v' w1 hown' hgrow _)
      go_roundw
      case rel => exact ⟨k + 1, by omega, by go_num, hB3.trans (grown_below hs3 hown3 hgrow), by rw [upTo_yes hkl HX.out HUP.out, List.flatMap_append]; simpa using hown'⟩
      case measure => simp [intOf]; omega
    · obtain rfl : k = l.length := by omega
      have hlen : (upTo ranks l l.length).length ≤ 120 := by omega
      obtain ⟨A2, c2, rfl, hP⟩ := owned_prs hown (by omega)
      have hup := rank_up (l := l) (k := l.length) (show ranks.length ≤ 30 by omega) HR.out
      have hbk : ∀ x, 0 < (upTo ranks l l.length).length → (upTo ranks l l.length)[0]?.getD (0, 0) = x → acyclicV ranks.length (upTo ranks l l.length ++ [(x.2, x.1)]) = false := fun x h1 h2 => rank_back h1 h2
      clear hl hrk
      generalize upTo ranks l l.length = kept at *
      have HUP := Lib.hid hup
      have HBK := Lib.hid hbk
      have HP := Lib.hid hP
      have HB := Lib.hid hB
      clear hup hbk hP hB
      by_cases h0 : kept.length = 0
      · obtain rfl := List.eq_nil_of_length_eq_zero h0
        have HC := Lib.hid (show Calls Try.prog 13 #[.int .i64 (ranks.length : Int), .slice A2 0 c2] wr fun e w' => e = .returned (.bool (acyclicV ranks.length [])) ∧ Below wr.heap.size wr w' from acyclic_any _ [] A2 c2 wr HP.out (by simp))
        clear h0 hown
        go_wp2_with (first
          | (go_at_call 13; refine HC.out.mono ?_; rintro e w1 ⟨rfl, hb1⟩; rw [HUP.out])
          | (go_at_call 10; refine (known_any _).mono ?_; rintro e w2 ⟨rfl, hb2⟩))
        go_ret
        exact ⟨rfl, HB.out.trans ((hb1.trans (hb2.mono hb1.size)).mono HB.out.size)⟩
      have h0' : decide ((kept.length : Int) = 0) = false := decide_eq_false (by omega)
      have h0'' : ((kept.length : Int) == 0) = false := by rw [beq_eq_false_iff_ne]; omega
      rcases hown.2 with ⟨_, hz⟩ | ⟨g, cap, cur, e', hbg, hgb, hr1, hr2, hr3, hr4⟩
      · exact absurd hz h0
      injection e' with e1 e2 e3
      subst e1
      have hgl : g < wr.heap.size := (Array.getElem?_eq_some_iff.1 hgb).1
      clear hgb hr1 hr2 hr3 hr4 e2 e3 hbg
      have h00 : 0 < kept.length := by omega
      obtain ⟨x, hx⟩ : ∃ x, kept[0]?.getD (0, 0) = x := ⟨_, rfl⟩
      have hbx := HBK.out x h00 hx
      obtain ⟨x0, x1⟩ := x
      dsimp only at hbx
      have hk0 : kept[0]? = some (x0, x1) := by rw [List.getElem?_eq_getElem h00] at hx ⊢; exact congrArg some hx
      have hf0 : (kept.flatMap cellsP)[0]? = some (.int .i64 x0) := by
        cases kept with
        | nil => cases hk0
        | cons p q => simp at hk0; subst hk0; rfl
      have hf1 : (kept.flatMap cellsP)[1]? = some (.int .i64 x1) := by
        cases kept with
        | nil => cases hk0
        | cons p q => simp at hk0; subst hk0; rfl
      have hnw := owned_news hown
      have HBX := Lib.hid hbx
      have HOWN := Lib.hid hown
      clear hx hk0 h0 hown hbx HBK
      go_upto_region 15 with (go_at_call 13; refine (acyclic_any _ kept _ c2 _ HP.out (by omega)).mono ?_; rintro e W ⟨rfl, hb1⟩; rw [HUP.out])
      have hW : ∀ j u, (kept.flatMap cellsP)[j]? = some u → W.cell? ((⟨g, 0, none⟩ : Addr).add j) = some u := fun j u hj => (hb1.cell (p := (⟨g, 0, none⟩ : Addr).add j) (by unfold Addr.add; split <;> exact hgl)).trans (hnw j u hj)
      have c0 : W.cell? ⟨g, 0, none⟩ = some (.int .i64 x0) := by simpa [Addr.add] using hW 0 _ hf0
      have c1 : W.cell? ⟨g, 1, none⟩ = some (.int .i64 x1) := by simpa [Addr.add] using hW 1 _ hf1
      have hn1 : ∀ j u, (kept.flatMap cellsP)[j]? = some u → W.drew.cell? ((⟨g, 0, none⟩ : Addr).add j) = some u := hW
      have hn2 : ∀ j u, (kept.flatMap cellsP)[j]? = some u → (W.alloc (.cells #[.int .i64 x1, .int .i64 x0] 34)).drew.cell? ((⟨g, 0, none⟩ : Addr).add j) = some u := fun j u hj => cell_kept (hW j u hj) (grown_alloc_drew W _ none) (fun j e => by cases e)
      have hsW : wr.heap.size ≤ W.heap.size := hb1.size
      have hsB : w.heap.size ≤ W.heap.size := Nat.le_trans HB.out.size hsW
      have a0 : (W.alloc (.cells #[.int .i64 x1, .int .i64 x0] 34)).drew.cell? ⟨g, 0, none⟩ = some (.int .i64 x0) := cell_kept c0 (grown_alloc_drew W _ none) (fun j e => by cases e)
      have a1 : (W.alloc (.cells #[.int .i64 x1, .int .i64 x0] 34)).drew.cell? ⟨g, 1, none⟩ = some (.int .i64 x1) := cell_kept c1 (grown_alloc_drew W _ none) (fun j e => by cases e)
      have b0 : W.drew.cell? ⟨g, 0, none⟩ = some (.int .i64 x0) := c0
      have b1 : W.drew.cell? ⟨g, 1, none⟩ = some (.int .i64 x1) := c1
      have nn : ∀ b : Addr, (some b.block : Option Nat) ≠ Value.ownBlock (.slice none 0 0) := fun b e => by cases e
      have hgW : g < W.heap.size := Nat.lt_of_lt_of_le hgl hsW
      have HBW := Lib.hid hb1
      clear hnw hW hf0 hf1 hb1
      go_region_held3 (fun w' => w'.cell? ⟨g, 0, none⟩ = some (.int .i64 x0) ∧ w'.cell? ⟨g, 1, none⟩ = some (.int .i64 x1))
        (first
          | go_keep
          | (exact ⟨hgrow3.cell b0 (nn _), hgrow3.cell b1 (nn _)⟩)
          | (exact ⟨hgrow3.cell a0 (nn _), hgrow3.cell a1 (nn _)⟩)
          | (exact ⟨cell_kept (hgrow3.cell b0 (nn _)) (World.grownBy_alloc w3 _ none) (fun j e => by cases e), cell_kept (hgrow3.cell b1 (nn _)) (World.grownBy_alloc w3 _ none) (fun j e => by cases e)⟩)
          | (exact ⟨hgrow4.cell (cell_kept (hgrow3.cell b0 (nn _)) (World.grownBy_alloc w3 _ none) (fun j e => by cases e)) m1, hgrow4.cell (cell_kept (hgrow3.cell b1 (nn _)) (World.grownBy_alloc w3 _ none) (fun j e => by cases e)) m1⟩)
          | (exact ⟨hgrow4.cell (hgrow3.cell a0 (nn _)) m1, hgrow4.cell (hgrow3.cell a1 (nn _)) m1⟩))
        (first
          | (refine step_append_lies _ (by rfl) _ _ _ (by rfl) w.heap.size 34 i0 _ 2 16 Try.underlying32 hi hz0 hz1 hz2 rfl (by omega) (.slice none 0 0) 0 [] (by rfl) (World.ownsRow_nil _ _ _ _) ⟨g, 0, none⟩ kept.length c2 (kept.flatMap cellsP) (by rfl) (len_flatP _) (by first | exact hn1 | exact hn2) (one_flatP _) (by omega) (by unfold maxLen; omega) (by omega) (by first | exact hsB | (simp; omega)) _ rfl ?_; intro g3 cap3 w3 hown3 hgrow3 hloc3 hlt3; rw [Nat.zero_add] at hown3 ⊢; rw [List.nil_append] at hown3)
          | (refine step_append_lies _ (by rfl) _ _ _ (by rfl) w.heap.size 34 i0 _ 2 16 Try.underlying32 hi hz0 hz1 hz2 rfl (by omega) (.slice (some ⟨g3, 0, none⟩) kept.length cap3) kept.length (kept.flatMap cellsP) (by rfl) (hown3.alloc _) ⟨w3.heap.size, 0, none⟩ 1 1 [.int .i64 x1, .int .i64 x0] (by rfl) (by rfl) (World.news_of_block (cs := #[.int .i64 x1, .int .i64 x0]) (t := 34) (fr := (0, 0)) (heap_alloc_new w3 _)) (by simp [Value.oneCell']) (by omega) (by unfold maxLen; omega) (by omega) (by have h3 : W.heap.size ≤ w3.heap.size := hgrow3.size; simp; omega) _ rfl ?_; intro g4 cap4 w4 hown4 hgrow4 hloc4 hlt4; have m1 : (some g : Option Nat) ≠ some g3 := (fun e => by injection e with e; rcases hloc3 with h | h <;> first | (cases h; done) | (have h2 : g3 = W.heap.size := h; omega) | (have h2 : g3 = (W.alloc (.cells #[.int .i64 x1, .int .i64 x0] 34)).heap.size := h; simp at h2; omega)))
          | (refine step_append_lies _ (by rfl) _ _ _ (by rfl) w.heap.size 34 i0 _ 2 16 Try.underlying32 hi hz0 hz1 hz2 rfl (by omega) (.slice (some ⟨g3, 0, none⟩) kept.length cap3) kept.length (kept.flatMap cellsP) (by rfl) hown3 ⟨W.heap.size, 0, none⟩ 1 1 [.int .i64 x1, .int .i64 x0] (by rfl) (by rfl) (World.news_of_block (cs := #[.int .i64 x1, .int .i64 x0]) (t := 34) (fr := (0, 0)) ((hgrow3.block W.heap.size (by simp) (fun e => by cases e)).trans (heap_alloc_new W _))) (by simp [Value.oneCell']) (by omega) (by unfold maxLen; omega) (by omega) (by have h3 : (W.alloc (.cells #[.int .i64 x1, .int .i64 x0] 34)).heap.size ≤ w3.heap.size := hgrow3.size; simp at h3; omega) _ rfl ?_; intro g4 cap4 w4 hown4 hgrow4 hloc4 hlt4; have m1 : (some g : Option Nat) ≠ some g3 := (fun e => by injection e with e; rcases hloc3 with h | h <;> first | (cases h; done) | (have h2 : g3 = W.heap.size := h; omega) | (have h2 : g3 = (W.alloc (.cells #[.int .i64 x1, .int .i64 x0] 34)).heap.size := h; simp at h2; omega))))
      all_goals
        have hB4 : Below w.heap.size w w4 := by
          refine HB.out.trans ((HBW.out.mono HB.out.size).trans ?_)
          first
            | exact (((Below.refl _ _).grown ((grown_drew W none).trans hgrow3) hsB (fun j e => by cases e)).alloc (Nat.le_trans hsB (show W.heap.size ≤ w3.heap.size from hgrow3.size)) _).grown hgrow4 (by have h3 : W.heap.size ≤ w3.heap.size := hgrow3.size; simp; omega) (fun j e => by cases e; show w.heap.size ≤ g3; rcases hloc3 with h | h <;> first | (cases h; done) | (have h2 : g3 = W.heap.size := h; omega))
            | exact ((Below.refl _ _).grown ((grown_alloc_drew W _ none).trans hgrow3) hsB (fun j e => by cases e)).grown hgrow4 (Nat.le_trans hsB (Nat.le_trans (by simp) hgrow3.size)) (fun j e => by cases e; show w.heap.size ≤ g3; rcases hloc3 with h | h <;> first | (cases h; done) | (have h2 : g3 = (W.alloc (.cells #[.int .i64 x1, .int .i64 x0] 34)).heap.size := h; simp at h2; omega))
        have hlen4 : (kept ++ [(x1, x0)]).length = kept.length + 1 := by simp
        have hP4 : Prs w4 (some ⟨g4, 0, none⟩) (kept ++ [(x1, x0)]) := prs_of_owned (cap := cap4) (by rw [hlen4]; omega) (by rw [hlen4, List.flatMap_append]; simpa [cellsP] using hown4)
        have hA4 := acyclic_any ranks.length (kept ++ [(x1, x0)]) (some ⟨g4, 0, none⟩) cap4 w4 hP4 (by rw [hlen4]; omega)
        rw [HBX.out, hlen4] at hA4
        have HA4 := Lib.hid hA4
        have HB4 := Lib.hid hB4
        clear hA4 hB4 hP4 hlen4
        go_wp2_with (first
          | (go_at_call 13; refine HA4.out.mono ?_; rintro e w5 ⟨rfl, hb5⟩)
          | (go_at_call 10; refine (known_any _).mono ?_; rintro e w6 ⟨rfl, hb6⟩))
        go_ret
        exact ⟨rfl, HB4.out.trans ((hb5.trans (hb6.mono hb5.size)).mono HB4.out.size)⟩
end Go.Proofs.Ytacnbdnmkmpldaa
