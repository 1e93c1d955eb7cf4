/- EventsPairs, whatever the execution: program order, what is read, coherence order and what comes behind what is read are what the document says. No condition. -/
import Derived.Test.YtacnbdnmkmpldaaGreatCoS
import Derived.Test.YtacnbdnmkmpldaaGreatPaQ
import Derived.Test.YtacnbdnmkmpldaaGreatPoS
import Derived.Test.YtacnbdnmkmpldaaGreatFrS
import Derived.Test.YtacnbdnmkmpldaaGreatRCh
import Derived.Test.YtacnbdnmkmpldaaGreatWd
import Derived.Test.YtacnbdnmkmpldaaGreatKn
import Derived.Deep.RegionHeld3
import Derived.Test.YtacnbdnmkmpldaaGreatRows
import Derived.Test.YtacnbdnmkmpldaaGreatMem
import Derived.WalkKit
import Derived.ProofKit
import Derived.OpenShut
import Derived.ShutString
import Derived.ChangeOld
import Derived.Below
import Derived.Test.YtacnbdnmkmpldaaGreatJf
/- From the reading of an argument to what lies in memory: the rows' capacities. -/
section
namespace Go.Proofs.YtacnbdnmkmpldaaGreat
open Go Go.Proofs Go.ChangeShapes Go.WideShapes Go.Deep Go.RowKit Q
set_option linter.unusedSimpArgs false
set_option linter.unusedVariables false

section
variable {H : Type} {enc : TypeId × Value → H} {P : Program} {w : World}

theorem lift_caps {t ts : TypeId} (ht : P.underlying t = some (.slice ts)) {ti : TypeId} (hs : P.underlying ts = some (.slice ti)) (hcs : P.cellsOf ts = 1) {fuel : Nat} {A : Option Addr} {m c : Nat} {x : DataW H × List MemPlace}
    (h : DataW.trod enc P w 0 (fun _ => true) true fuel t [.slice A m c] = some x) : CapsOk w A m := by
  intro b off hA j hj B n cc hc
  rcases open_slice1 ht hcs h with ⟨hcs', _⟩ | ⟨a, len, cap, m', n', V, D, Pl, hcs', _, hl, hm, hmm, hx, hi⟩
  · injection hcs' with e; injection e with e1 e2 e3
    omega
  · injection hcs' with e; injection e with e1 e2 e3
    subst e1 e2 e3
    injection hA with hA; subst hA
    rw [if_pos rfl] at hmm
    subst hmm
    obtain ⟨h1, h2⟩ := hi j (by omega)
    have hadd : (⟨b, off, none⟩ : Addr).add j = ⟨b, off + j, none⟩ := add_at _ rfl j
    rw [hadd, hc] at h1
    injection h1 with h1
    rw [← h1] at h2
    rcases open_slice hs h2 with ⟨e, _⟩ | ⟨a2, len2, cap2, m2, n2, D2, Pl2, e, _, hl2, hm2, _⟩
    · injection e with e; injection e with _ e2 e3; omega
    · injection e with e; injection e with _ e2 e3
      omega
theorem lift_ex_caps {tx : TypeId} (T : ExTypes P tx) {fuel : Nat} {x : DataW H × List MemPlace} {Ae Af Ao : Option Addr} {ne nf no ce cf co : Nat}
    (h : DataW.trod enc P w 0 (fun _ => true) true fuel tx [.slice Ae ne ce, .slice Af nf cf, .slice Ao no co] = some x) (hf : Fits P tx x.1) : CapsOk w Ao no := by
  obtain ⟨fs, tl, te, ts, tr, ti, hu, hone, hC, hts, htl, hE, hbe, hts', hti, hci, hbi, htr, hcs, hbs⟩ := T.ex
  have hsz : fs.size = 3 := by have := congrArg List.length hts; simpa using this
  obtain ⟨hlen, hg⟩ := lift_struct hu hone (by omega) h hf
  have hj : [tl, ts, tr][2]? = some tr := rfl
  rw [← hts, List.getElem?_map, Array.getElem?_toList] at hj
  cases hfj : fs[2]? with
  | none => rw [hfj] at hj; cases hj
  | some f =>
    rw [hfj] at hj
    injection hj with hj
    obtain ⟨v, n, y, e2, h2, _⟩ := hg 2 f hfj
    rw [show f.type = tr from hj] at h2
    simp only [List.getElem?_cons_zero, List.getElem?_cons_succ, Option.some.injEq] at e2
    subst e2
    exact lift_caps htr hts' hcs h2
end
end Go.Proofs.YtacnbdnmkmpldaaGreat
end

/- EventsPairs: the law's walk. -/
section
namespace Go.Proofs.YtacnbdnmkmpldaaGreat
open Go Go.Proofs Go.RowKit Q

/-- The four relations, by the reference. -/
theorem rel_calls (x : Ex) (Ae Af Ao : Option Addr) (ce cf co : Nat) (w : World) (he : Evs w Ae x.evs) (hf : Ints w Af x.src) (ho : Q.Rows w Ao x.order) (hv : checkV x = 0) (which : Nat) (is : Nat → Nat → Bool)
    (hwh : (which = 1 ∧ is = isPo x) ∨ (which = 2 ∧ is = isRf x) ∨ (which = 3 ∧ is = isCo x) ∨ (which = 4 ∧ is = isFr x)) :
    Calls Tryz.prog 28 #[.agg #[.slice Ae x.evs.length ce, .slice Af x.src.length cf, .slice Ao x.order.length co], .int .i64 which] w (PairsAre (pairsOf x.evs.length is) w) := by
  obtain ⟨h0, _, h3, _⟩ := check_zero hv
  obtain ⟨hsl, hs⟩ := src_at h3
  refine rpairs_any x Ae Af Ao ce cf co which is w (by omega) (by omega) fun a b ha hb W' hB => ?_
  have he' := he.below hB
  have hf' := hf.below hB
  have ho' := ho.below hB
  rcases hwh with ⟨rfl, rfl⟩ | ⟨rfl, rfl⟩ | ⟨rfl, rfl⟩ | ⟨rfl, rfl⟩
  · exact risPo_any x Ae ce _ _ a b W' he' ha hb
  · exact risRf_any x Ae Af ce cf _ a b W' he' hf' hb (by omega)
  · exact risCo_any x Ae Ao ce co _ a b W' he' ho' ha hb
  · refine risFr_any x Ae Af Ao ce cf co a b W' he' hf' ho' ha hb (by omega) fun hl => ?_
    rcases src_range (hs a ha) with ⟨_, h1, h2⟩ | ⟨h1, _⟩
    · exact ⟨h1, h2⟩
    · rw [h1] at hl; cases hl

set_option maxRecDepth 100000 in
set_option maxHeartbeats 2000000 in
theorem evPairs_walk (x : Ex) (hok : ExOk x) (Ae Af Ao : Option Addr) (ce cf co : Nat) (w : World) (he : Evs w Ae x.evs) (hf : Ints w Af x.src) (ho : Q.Rows w Ao x.order) (hcap : CapsOk w Ao x.order.length) :
    Calls Tryz.prog 3 #[.agg #[.slice Ae x.evs.length ce, .slice Af x.src.length cf, .slice Ao x.order.length co]] w fun r w' => r = .returned (.bool true) ∧ Below w.heap.size w w' := by
  have hx0 := he.1
  go_enter Tryz.func3, Tryz.ntmps3
  go_upto_region 1 with (fail)
  obtain ⟨W0, s0, hW0, hbx, hsz, b0, b1, b2⟩ := box3 w 26 (.slice Ae x.evs.length ce) (.slice Af x.src.length cf) (.slice Ao x.order.length co)
  rw [hW0]
  clear hW0
  have he0 := he.below hbx
  have hf1 := hf.below hbx
  have ho1 := ho.below hbx
  have hcp1 : CapsOk W0 Ao x.order.length := hcap.fut ho ⟨W0, hbx⟩
  have hend : ∀ s : Fut W0, Below w.heap.size w s.val := fun s => hbx.trans (s.below.mono (Nat.le_of_lt hsz))
  have HEND := Lib.hid hend
  have HWX := Lib.hid (fun s : Fut W0 => wide_any x Ae Af Ao ce cf co s.val (he0.fut s) (hf1.fut s) (ho1.fut s))
  have HCK := Lib.hid (fun s : Fut W0 => rcheck_any x hok Ae Af Ao ce cf co s.val (he0.fut s) (hf1.fut s) (ho1.fut s))
  have HPO := Lib.hid (fun s : Fut W0 => po_any x hok Ae Af Ao ce cf co s.val (he0.fut s) (hf1.fut s) (ho1.fut s))
  have HCO := Lib.hid (fun s : Fut W0 => co_any x hok Ae Af Ao ce cf co s.val (he0.fut s) (hf1.fut s) (ho1.fut s) (hcp1.fut ho1 s))
  have HFR := Lib.hid (fun s : Fut W0 => fr_any x hok Ae Af Ao ce cf co s.val (he0.fut s) (hf1.fut s) (ho1.fut s) (hcp1.fut ho1 s))
  have HRF := Lib.hid (fun s : Fut W0 => rf_any x hok Ae Af Ao ce cf co s.val (he0.fut s) (hf1.fut s) (ho1.fut s))
  have HREL := Lib.hid (fun (s : Fut W0) hv which is h => rel_calls x Ae Af Ao ce cf co s.val (he0.fut s) (hf1.fut s) (ho1.fut s) hv which is h)
  clear he hf ho hcap hend hf1 ho1 hcp1 he0
  have d0 := b0 s0
  have d1 := b1 s0
  have d2 := b2 s0
  go_wp2_with fail
  refine (HWX.out s0).mono ?_
  rintro e w1 ⟨b, rfl, _, hb1⟩
  obtain ⟨s1, rfl⟩ : ∃ s1 : Fut W0, w1 = s1.val := ⟨⟨w1, s0.below.trans (hb1.mono s0.below.size)⟩, rfl⟩
  clear hb1 d0 d1 d2
  have d0 := b0 s1
  have d1 := b1 s1
  have d2 := b2 s1
  cases b
  case true =>
    go_wp2_with (go_at_call 21; refine (known_any _).mono ?_; rintro e w' ⟨rfl, hb⟩)
    go_ret
    exact ⟨rfl, (HEND.out s1).trans (hb.mono (HEND.out s1).size)⟩
  by_cases h24 : 24 < x.evs.length
  · have q : decide ((24 : Int) < (x.evs.length : Int)) = true := decide_eq_true (by omega)
    go_wp2_with (go_at_call 21; refine (known_any _).mono ?_; rintro e w' ⟨rfl, hb⟩)
    go_ret
    exact ⟨rfl, (HEND.out s1).trans (hb.mono (HEND.out s1).size)⟩
  have q24 : decide ((24 : Int) < (x.evs.length : Int)) = false := decide_eq_false (by omega)
  have hbb : Below W0.heap.size W0 s1.val.drew := s1.below.drew
  go_upto_region 3 with (fail)
  go_cut [3, 4, 5, 6] (fun v3 v4 v5 v6 wx => ∃ (A1 : Option Addr) (c1 : Nat) (A2 : Option Addr) (c2 : Nat) (A3 : Option Addr) (c3 : Nat) (A4 : Option Addr) (c4 : Nat), v3 = .slice A1 (poV x).length c1 ∧ v4 = .slice A2 (rfV x).length c2 ∧ v5 = .slice A3 (coV x).length c3 ∧ v6 = .slice A4 (frV x).length c4 ∧
      Prs wx A1 (poV x) ∧ Prs wx A2 (rfV x) ∧ Prs wx A3 (coV x) ∧ Prs wx A4 (frV x) ∧ Below W0.heap.size W0 wx)
  case first =>
    go_region_held3 (fun w' => w'.cell? ⟨w.heap.size, 0, none⟩ = some (.slice Ae x.evs.length ce) ∧ w'.cell? ⟨w.heap.size, 1, none⟩ = some (.slice Af x.src.length cf) ∧ w'.cell? ⟨w.heap.size, 2, none⟩ = some (.slice Ao x.order.length co) ∧ Below W0.heap.size W0 w')
      (first | (exact ⟨b0 ⟨_, hbb⟩, b1 ⟨_, hbb⟩, b2 ⟨_, hbb⟩, hbb⟩) | go_keep)
      (first
        | (have hH := (‹_ ∧ _ ∧ _ ∧ Below W0.heap.size W0 _›).2.2.2; go_at_call 22; refine (HPO.out ⟨_, hH⟩).mono ?_; rintro e w2 ⟨A1, c1, rfl, hp1, hb1⟩; have hbb := hH.trans (hb1.mono hH.size))
        | (have hH := (‹_ ∧ _ ∧ _ ∧ Below W0.heap.size W0 _›).2.2.2; go_at_call 23; refine (HRF.out ⟨_, hH⟩).mono ?_; rintro e w3 ⟨A2, c2, rfl, hp2, hb2⟩; have hbb := hH.trans (hb2.mono hH.size))
        | (have hH := (‹_ ∧ _ ∧ _ ∧ Below W0.heap.size W0 _›).2.2.2; go_at_call 24; refine (HCO.out ⟨_, hH⟩).mono ?_; rintro e w4 ⟨A3, c3, rfl, hp3, hb3⟩; have hbb := hH.trans (hb3.mono hH.size))
        | (have hH := (‹_ ∧ _ ∧ _ ∧ Below W0.heap.size W0 _›).2.2.2; go_at_call 25; refine (HFR.out ⟨_, hH⟩).mono ?_; rintro e w5 ⟨A4, c4, rfl, hp4, hb4⟩; have hbb := hH.trans (hb4.mono hH.size)))
    all_goals
      go_wp2_with fail
      go_meet
      exact ⟨A1, c1, A2, c2, A3, c3, A4, c4, rfl, rfl, rfl, rfl, ((hp1.below hb2).below hb3).below hb4, (hp2.below hb3).below hb4, hp3.below hb4, hp4, hbb⟩
  case rest =>
    obtain ⟨A1, c1, A2, c2, A3, c3, A4, c4, rfl, rfl, rfl, rfl, hp1, hp2, hp3, hp4, hbw⟩ := hcut
    obtain ⟨sc, rfl⟩ : ∃ sc : Fut W0, wc = sc.val := ⟨⟨wc, hbw⟩, rfl⟩
    have HP1 := Lib.hid hp1
    have HP2 := Lib.hid hp2
    have HP3 := Lib.hid hp3
    have HP4 := Lib.hid hp4
    clear hp1 hp2 hp3 hp4 hbw hbb d0 d1 d2
    have d0 := b0 sc
    have d1 := b1 sc
    have d2 := b2 sc
    have HSC := Lib.hid (HEND.out sc)
    by_cases hv : checkV x = 0
    case neg =>
      have q1 : (checkV x != 0) = true := by simp [hv]
      have q0 : (checkV x == 0) = false := by simp [hv]
      have l1 : (poV x).length = 0 := by rw [po_none hv]; rfl
      have l2 : (rfV x).length = 0 := by rw [rf_no hv]; rfl
      have l3 : (coV x).length = 0 := by rw [co_no hv]; rfl
      have l4 : (frV x).length = 0 := by rw [fr_none hv]; rfl
      rw [l1, l2, l3, l4]
      clear l1 l2 l3 l4 hv HP1 HP2 HP3 HP4
      go_wp2_with (first
        | (go_at_call 26; refine (HCK.out sc).mono ?_; rintro e w6 ⟨rfl, hb6⟩)
        | (go_at_call 21; refine (known_any _).mono ?_; rintro e w' ⟨rfl, hb⟩))
      go_ret
      exact ⟨rfl, HSC.out.trans ((hb6.trans (hb.mono hb6.size)).mono HSC.out.size)⟩
    have q1 : (checkV x != 0) = false := by simp [hv]
    have q0 : (checkV x == 0) = true := by simp [hv]
    have e1 := po_pairs hv
    have e2 := rf_pairs hv
    have e3 := co_pairs hv
    have e4 := fr_pairs hv
    rw [e1] at HP1
    rw [e2] at HP2
    rw [e3] at HP3
    rw [e4] at HP4
    rw [e1, e2, e3, e4]
    have HV := Lib.hid hv
    clear e1 e2 e3 e4 hv
    go_upto_region 6 with (go_at_call 26; refine (HCK.out sc).mono ?_; rintro e w6 ⟨rfl, hb6⟩)
    obtain ⟨s6, rfl⟩ : ∃ s6 : Fut sc.val, w6 = s6.val := ⟨⟨w6, hb6⟩, rfl⟩
    clear d0 d1 d2 hb6
    have f0 : ∀ t : Fut sc.val, t.val.cell? ⟨w.heap.size, 0, none⟩ = some (.slice Ae x.evs.length ce) := fun t => b0 (Fut.of sc t)
    have f1 : ∀ t : Fut sc.val, t.val.cell? ⟨w.heap.size, 1, none⟩ = some (.slice Af x.src.length cf) := fun t => b1 (Fut.of sc t)
    have f2 : ∀ t : Fut sc.val, t.val.cell? ⟨w.heap.size, 2, none⟩ = some (.slice Ao x.order.length co) := fun t => b2 (Fut.of sc t)
    have HR := Lib.hid (fun (t : Fut sc.val) which is h => HREL.out (Fut.of sc t) HV.out which is h)
    clear b0 b1 b2
    have zz0 := f0 s6
    have zz1 := f1 s6
    have zz2 := f2 s6
    go_wp2_with fail
    refine (HR.out s6 1 _ (.inl ⟨rfl, rfl⟩)).mono ?_
    rintro e w1a ⟨B1, k1, rfl, hq1, hb1a⟩
    obtain ⟨t1, rfl⟩ : ∃ t : Fut sc.val, w1a = t.val := ⟨⟨w1a, s6.below.trans (hb1a.mono s6.below.size)⟩, rfl⟩
    have HS1 := Lib.hid (samePairs_any (pairsOf x.evs.length (isPo x)) A1 B1 c1 k1 t1.val (HP1.out.fut t1) hq1)
    clear hq1 hb1a zz0 zz1 zz2
    go_wp2_with fail
    refine HS1.out.mono ?_
    rintro e w1b ⟨rfl, hb1b⟩
    obtain ⟨v1, rfl⟩ : ∃ t : Fut sc.val, w1b = t.val := ⟨⟨w1b, t1.below.trans (hb1b.mono t1.below.size)⟩, rfl⟩
    clear hb1b HS1
    have zz0 := f0 v1
    have zz1 := f1 v1
    have zz2 := f2 v1
    go_wp2_with fail
    refine (HR.out v1 2 _ (.inr (.inl ⟨rfl, rfl⟩))).mono ?_
    rintro e w2a ⟨B2, k2, rfl, hq2, hb2a⟩
    obtain ⟨t2, rfl⟩ : ∃ t : Fut sc.val, w2a = t.val := ⟨⟨w2a, v1.below.trans (hb2a.mono v1.below.size)⟩, rfl⟩
    have HS2 := Lib.hid (samePairs_any (pairsOf x.evs.length (isRf x)) A2 B2 c2 k2 t2.val (HP2.out.fut t2) hq2)
    clear hq2 hb2a zz0 zz1 zz2
    go_wp2_with fail
    refine HS2.out.mono ?_
    rintro e w2b ⟨rfl, hb2b⟩
    obtain ⟨v2, rfl⟩ : ∃ t : Fut sc.val, w2b = t.val := ⟨⟨w2b, t2.below.trans (hb2b.mono t2.below.size)⟩, rfl⟩
    clear hb2b HS2
    have zz0 := f0 v2
    have zz1 := f1 v2
    have zz2 := f2 v2
    go_wp2_with fail
    refine (HR.out v2 3 _ (.inr (.inr (.inl ⟨rfl, rfl⟩)))).mono ?_
    rintro e w3a ⟨B3, k3, rfl, hq3, hb3a⟩
    obtain ⟨t3, rfl⟩ : ∃ t : Fut sc.val, w3a = t.val := ⟨⟨w3a, v2.below.trans (hb3a.mono v2.below.size)⟩, rfl⟩
    have HS3 := Lib.hid (samePairs_any (pairsOf x.evs.length (isCo x)) A3 B3 c3 k3 t3.val (HP3.out.fut t3) hq3)
    clear hq3 hb3a zz0 zz1 zz2
    go_wp2_with fail
    refine HS3.out.mono ?_
    rintro e w3b ⟨rfl, hb3b⟩
    obtain ⟨v3, rfl⟩ : ∃ t : Fut sc.val, w3b = t.val := ⟨⟨w3b, t3.below.trans (hb3b.mono t3.below.size)⟩, rfl⟩
    clear hb3b HS3
    have zz0 := f0 v3
    have zz1 := f1 v3
    have zz2 := f2 v3
    go_wp2_with fail
    refine (HR.out v3 4 _ (.inr (.inr (.inr ⟨rfl, rfl⟩)))).mono ?_
    rintro e w4a ⟨B4, k4, rfl, hq4, hb4a⟩
    obtain ⟨t4, rfl⟩ : ∃ t : Fut sc.val, w4a = t.val := ⟨⟨w4a, v3.below.trans (hb4a.mono v3.below.size)⟩, rfl⟩
    have HS4 := Lib.hid (samePairs_any (pairsOf x.evs.length (isFr x)) A4 B4 c4 k4 t4.val (HP4.out.fut t4) hq4)
    clear hq4 hb4a zz0 zz1 zz2
    go_wp2_with fail
    refine HS4.out.mono ?_
    rintro e w4b ⟨rfl, hb4b⟩
    obtain ⟨v4, rfl⟩ : ∃ t : Fut sc.val, w4b = t.val := ⟨⟨w4b, t4.below.trans (hb4b.mono t4.below.size)⟩, rfl⟩
    clear hb4b HS4
    have zz0 := f0 v4
    have zz1 := f1 v4
    have zz2 := f2 v4
    go_wp2_with fail
    refine (known_any _).mono ?_
    rintro e w9 ⟨rfl, hb9⟩
    go_wp2_with fail
    go_ret
    have hB : Below w.heap.size w v4.val := HSC.out.trans (v4.below.mono HSC.out.size)
    exact ⟨rfl, hB.trans (hb9.mono hB.size)⟩
end Go.Proofs.YtacnbdnmkmpldaaGreat
end

/- EventsPairs, whatever the execution: program order, what is read, coherence order and what comes behind what is read are what the document says. No condition. -/
section
namespace Go.Proofs.YtacnbdnmkmpldaaGreat.EventsPairsDone
open Go Go.Proofs Go.ChangeShapes Go.WideShapes Go.ChangeAt Go.RowKit Q
open Go.ChangeMaps (open_string shut_string)

theorem own : ownKnob Tryz.prog.godebug = none := by kernel_rfl
theorem laidOut : laidOutB Tryz.prog = true := by kernel_rfl
theorem exTypes : ExTypes Tryz.prog 26 :=
  ⟨_, 22, 42, 23, 24, 3, Tryz.underlying26, by kernel_rfl, by kernel_rfl, by kernel_rfl, Tryz.underlying22,
    ⟨_, 3, 39, 40, 4, 23, Tryz.underlying42, by kernel_rfl, by kernel_rfl, by kernel_rfl, Tryz.underlying3, Tryz.underlying39, Tryz.underlying40, Tryz.underlying4, Tryz.underlying23, by kernel_rfl, by kernel_rfl⟩,
    of_decide_eq_true (by kernel_rfl), Tryz.underlying23, Tryz.underlying3, by kernel_rfl, by kernel_rfl, Tryz.underlying24, by kernel_rfl, of_decide_eq_true (by kernel_rfl)⟩
theorem fits_of {H : Type} {P : Program} {ts : List TypeId} {ds : List (DataW H)} (h : (DataW.weightsEach P ts ds).all (· ≤ reachBytes) = true) {j : Nat} {t : TypeId} {d : DataW H} (ht : ts[j]? = some t) (hd : ds[j]? = some d) : Fits P t d :=
  fun n hn => by simpa using List.all_eq_true.1 h n (DataW.weights_mem_each ht hd n hn)

set_option maxRecDepth 100000 in
theorem lifted (os : Os) (started : os.Started) (H : Type) (enc : TypeId × Value → H) :
    ReturnsInHanded {} Tryz.checked os 3 .any (Rows.eventsPairsSpec.pre6 enc Tryz.prog Tryz.f3 Rows.eventsPairsRow.domain false) (Rows.eventsPairsSpec.post enc Tryz.prog Tryz.f3 false true false false) := by
  refine returnsInHanded_of_change_sized (C := Tryz.checked) own started (by kernel_rfl) Tryz.func3
    (ChangeSpec.witness6 (enc := enc) (C := Tryz.checked) false ⟨#[], #[.agg #[.slice none 0 0, .slice none 0 0, .slice none 0 0]], []⟩ 8 (by kernel_rfl) (by kernel_rfl) (by kernel_rfl) (by kernel_rfl)) ?_
  intro W base args ds gs before hval0 hW hcnd hsz0 _
  have hval : ∀ (j : Nat) t v, Tryz.f3.params[j]? = some t → args[j]? = some v → Value.okWide Tryz.prog W .any base t v := hval0
  have hsz : (DataW.weightsEach Tryz.prog (Tryz.f3.params.toList ++ Rows.eventsPairsSpec.plain.varTypes Tryz.prog) (ds ++ gs)).all (· ≤ reachBytes) = true := hsz0
  have hW' := hW
  obtain ⟨p, q, hA0, hV, rfl, hfz, hnd⟩ := hW
  have hA : DataW.TrodAll enc Tryz.prog W 0 (fun _ => true) true Tryz.f3.params.toList args.toList ds p := hA0
  rw [Tryz.params3] at hA hval hsz
  obtain ⟨v0, vs0, d0, ds0, p0, q0, hargs, rfl, rfl, h0, r0⟩ := trodAll_cons hA
  obtain ⟨rfl, rfl, rfl⟩ := trodAll_nil r0
  obtain rfl : args = #[v0] := by cases args; simp_all
  obtain ⟨rfl, rfl⟩ := trodVars_none hV
  obtain ⟨cs, rfl, _⟩ := okWide_struct Tryz.underlying26 (hval 0 26 v0 rfl rfl)
  have k0 := h0
  have lt0 : ∀ x ∈ p0, x.block < W.heap.size := by obtain ⟨m, hm⟩ := k0; exact DataW.trod_lt m _ _ _ hm
  have hfit : Fits Tryz.prog 26 d0 := fits_of hsz (j := 0) rfl rfl
  obtain ⟨fuel, hf⟩ := h0
  obtain ⟨x, Ae, Af, Ao, ce, cf, co, hcs, hx, hok⟩ := lift_ex exTypes hf hfit
  obtain rfl : cs = #[.slice Ae x.evs.length ce, .slice Af x.src.length cf, .slice Ao x.order.length co] := by
    apply Array.ext'
    simpa [Value.cells] using hcs
  have hcap := lift_ex_caps exTypes hf hfit
  clear hA0 hval0
  refine (evPairs_walk x hok Ae Af Ao ce cf co W hx.evs hx.src hx.order hcap).mono fun e W' ⟨he, bel⟩ => ?_
  subst he
  exact ⟨_, rfl, _, _, _, [], _, [], hW', trodAll_mk1 (shut_bool Tryz.underlying4 _), (trodAll_cons_mk (Below.trod laidOut (by kernel_rfl) (of_decide_eq_true (by kernel_rfl)) k0 bel lt0) trodAll_mk0), rfl, bel.frame _, fun h => by cases h⟩

set_option maxRecDepth 100000 in
set_option maxHeartbeats 40000000 in
theorem closed : joinedFacts Tryz.pinned.checked.prog 3 Tryz.f3 Rows.eventsPairsSpec Rows.eventsPairsRow = true := by
  unfold joinedFacts
  repeat' (with_reducible refine Jf.and_intro ?_ ?_)
  all_goals first
    | with_reducible exact Jf.laid
    | with_reducible exact Jf.rowed
    | with_reducible exact Jf.heard
    | with_reducible exact Jf.enter
    | (rw [Jf.lifts]; rfl)
    | (as_aux_lemma => kernel_rfl)
theorem over : Rows.eventsPairsRow.holds Tryz.pinned (OpenSpec.ofChange Rows.eventsPairsSpec) :=
  OpenClaim.holds_of_wide 3 Tryz.f3 rfl rfl rfl rfl rfl rfl rfl ⟨rfl, rfl, rfl, rfl, rfl⟩ rfl rfl rfl rfl rfl (by as_aux_lemma => kernel_rfl) Tryz.func3 closed
    (of_decide_eq_true (by as_aux_lemma => kernel_rfl)) (by unfold Func.isWrapper; first | (rw [if_pos (by decide +kernel)]; kernel_rfl) | (rw [if_neg (by decide +kernel)]; exact ⟨rfl, rfl⟩))
    (fun os started H enc _ => lifted os started H enc)
end Go.Proofs.YtacnbdnmkmpldaaGreat.EventsPairsDone
namespace Go.Proofs.YtacnbdnmkmpldaaGreat
/-- EventsPairs. -/
theorem eventsPairs_holds : Rows.EventsPairsSaid := EventsPairsDone.over
#print axioms eventsPairs_holds
end Go.Proofs.YtacnbdnmkmpldaaGreat
end

