/- events.addresses: the addresses that events have. -/
import Derived.Test.YtacnbdnmkmpldaaGreatItU
import Derived.Maps.OwnOps
namespace Go.Proofs.YtacnbdnmkmpldaaGreat
open Go Go.Proofs Go.RowKit Go.Maps Q
set_option linter.unusedSimpArgs false
set_option linter.unusedVariables false

theorem mem_ins {a b : Int} : ∀ l : List Int, b ∈ ins a l ↔ b = a ∨ b ∈ l
  | [] => by simp [ins]
  | c :: l => by
    simp only [ins]
    by_cases h1 : c < a
    · rw [if_pos h1, List.mem_cons, mem_ins l, List.mem_cons]
      constructor
      · rintro (h | h | h) <;> simp [h]
      · rintro (h | h | h) <;> simp [h]
    · rw [if_neg h1]
      by_cases h2 : c = a
      · rw [if_pos h2]; subst h2; simp
      · rw [if_neg h2]; simp
theorem ins_rising {a : Int} : ∀ l : List Int, l.Pairwise (· < ·) → (ins a l).Pairwise (· < ·)
  | [], _ => by simp [ins]
  | c :: l, h => by
    obtain ⟨h1, h2⟩ := List.pairwise_cons.1 h
    simp only [ins]
    by_cases hc : c < a
    · rw [if_pos hc]
      refine List.pairwise_cons.2 ⟨fun b hb => ?_, ins_rising l h2⟩
      rcases (mem_ins l).1 hb with rfl | hb
      · exact hc
      · exact h1 b hb
    · rw [if_neg hc]
      by_cases he : c = a
      · rw [if_pos he]; exact h
      · rw [if_neg he]
        refine List.pairwise_cons.2 ⟨fun b hb => ?_, h⟩
        rcases List.mem_cons.1 hb with rfl | hb
        · omega
        · have := h1 b hb; omega
theorem addrsTo_rising (x : Ex) : ∀ k, k ≤ x.evs.length → (addrsTo x k).Pairwise (· < ·)
  | 0, _ => by simp [addrsTo]
  | k + 1, hk => by
    rw [addrsTo_succ (by omega) rfl]
    split
    · exact addrsTo_rising x k (by omega)
    · exact ins_rising _ (addrsTo_rising x k (by omega))
theorem sort_rising {l : List Int} (h : l.Pairwise (· < ·)) : sortI l = l := by
  unfold sortI
  exact List.mergeSort_of_pairwise (h.imp fun hab => by simp; omega)
theorem rising_nodup {l : List Int} (h : l.Pairwise (· < ·)) : l.Nodup := h.imp fun hab => by omega

theorem map_below {w w' : World} {P : Program} {k : TypeId} {R : Value → Option (DataW Unit × List MemPlace)} {b n : Nat} {D : DataW Unit} (h : w.ownsMap P k R b n D) (hb : Below w.heap.size w w') : w'.ownsMap P k R b n D := by
  have hbl := h.lt
  obtain ⟨es, clock, hc, F, hs, hD⟩ := h
  exact ⟨es, clock, (hb.block b hbl).trans hc, F, hs, hD⟩
theorem zeroInt (w : World) : (zeroValue 3).run Tryz.prog w = .ok (.int .i64 0) w := by kernel_rfl

set_option maxRecDepth 100000 in
set_option maxHeartbeats 4000000 in
theorem addrs_any (x : Ex) (hok : ExOk x) (Ae : Option Addr) (ce : Nat) (Vf Vo : Value) (w : World) (he : Evs w Ae x.evs) :
    Calls Tryz.prog 88 #[.agg #[.slice Ae x.evs.length ce, Vf, Vo]] w fun r w' =>
      ∃ A c, r = .returned (.slice A (addrsOf x.evs).length c) ∧ U32s w' A (addrsOf x.evs) ∧ Below w.heap.size w w' := by
  have hx0 := he.1
  have hmm := @run_makeMap Tryz.prog
  go_enter Tryz.func88, Tryz.ntmps88
  go_upto_region 1 with (fail)
  obtain ⟨W0, s0, hW0, hbx, hsz, b0, b1, b2⟩ := box3 w 26 (.slice Ae x.evs.length ce) Vf Vo
  rw [hW0]
  clear hW0
  have he0 := he.below hbx
  clear he b1 b2
  have hend : ∀ s : Fut W0, Below w.heap.size w s.val := fun s => hbx.trans (s.below.mono (Nat.le_of_lt hsz))
  have HEND := Lib.hid hend
  clear hend
  go_upto_region 2 with (fail)
  have hown0 := World.ownsMap_made s0.val Tryz.prog 40 (plainElem (H := Unit) Tryz.prog 3)
  have hbB : W0.heap.size ≤ s0.val.heap.size := s0.below.size
  obtain ⟨s1, hs1⟩ : ∃ s : Fut W0, s0.val.alloc (.map #[] 0) = s.val := ⟨⟨_, s0.below.alloc hbB _⟩, rfl⟩
  rw [hs1] at hown0 ⊢
  clear hs1
  generalize s0.val.heap.size = B at hown0 hbB ⊢
  go_wp2
  go_loopw [10] (fun i wr => ∃ k : Nat, k ≤ x.evs.length ∧ i = .int .i64 k ∧ (∃ s : Fut W0, wr = s.val) ∧ ∃ D : DataW Unit, wr.ownsMap Tryz.prog 40 (plainElem Tryz.prog 3) B k D ∧ Maps.size D ≤ k ∧ ∀ a, has D (.int .u32 a) = true ↔ a ∈ addrsTo x k)
    (fun i _ => x.evs.length - (intOf i).toNat)
  case atStart => exact ⟨0, Nat.zero_le _, rfl, ⟨s1, rfl⟩, _, hown0, Nat.zero_le _, fun a => by simp [addrsTo, has_eq]⟩
  case round =>
    obtain ⟨k, hk, rfl, ⟨s, rfl⟩, D, hown, hsize, hmem⟩ := hrel
    clear hown0
    by_cases hlt : k < x.evs.length
    case neg =>
      obtain rfl : k = x.evs.length := by omega
      have hall : addrsTo x x.evs.length = addrsOf x.evs := by simp [addrsTo, addrsOf]
      have hris := addrsTo_rising x x.evs.length (Nat.le_refl _)
      have hlen := addrsTo_len x x.evs.length (Nat.le_refl _)
      rw [hall] at hris hmem hlen
      have hperm : (addrsOf x.evs).Perm (wordKeys D) := CollectedU.perm (left := fun _ => false) ⟨rising_nodup hris, fun b => by rw [hmem b]; simp⟩ hown (int_keyed Tryz.underlying40) Tryz.underlying40 (fun _ => rfl)
      have hsort : sortI (wordKeys D) = addrsOf x.evs := by rw [← sort_rising hris]; exact (sort_perm hperm).symm
      have hB1 : Below s.val.heap.size s.val (s.val.alloc (.cells #[.map (some B)] 128)) := (Below.refl _ _).alloc (Nat.le_refl _) _
      have hk2 := sorted_keys s.val.heap.size B x.evs.length D (by unfold maxLen; omega) (by omega) (s.val.alloc (.cells #[.map (some B)] 128)) (by simp) (by simp) (map_below hown hB1)
      rw [hsort] at hk2
      have HK := Lib.hid hk2
      have hH := HEND.out s
      clear hk2 hown hmem hperm hsort
      go_wp2_with (first
        | (go_at_call 135; refine (keys_any _ _).mono ?_; rintro e w' ⟨rfl, rfl⟩)
        | (go_at_call 134; refine HK.out.mono ?_; rintro e w' ⟨v, rfl, hrow, hb2⟩))
      go_ret
      have hfin := hH.trans ((hB1.trans (hb2.mono (by simp))).mono (Nat.le_trans hbx.size s.below.size))
      rcases hrow.2 with ⟨rfl, hz⟩ | ⟨gb, cap, cur, rfl, hbase, hgb, r1, r2, r3, r4⟩
      · exact ⟨none, 0, by rw [hz]; rfl, ⟨by omega, fun h => by omega⟩, hfin⟩
      · exact ⟨_, _, rfl, ⟨by omega, fun _ => ⟨gb, 0, rfl, owned_cells hrow⟩⟩, hfin⟩
    obtain ⟨be, oe, rfl, _⟩ := he0.2 (by omega)
    have hwa : u32R (x.evs[k]?.getD zev).addr := (hok.ev k hlt).addr
    have hE := he0.at k hlt
    have hst := addrsTo_succ hlt rfl
    generalize x.evs[k]?.getD zev = e at hE hst hwa
    obtain ⟨Aa', ca', Ad, cd, Ac, cc, f0, f1, f2, f3, f4, f5, f6, f7, f8, f9, f10, f11, f12, _, _, _⟩ := hE.facts
    go_upto_region 5 with (fail)
    obtain ⟨W1, s2, hW1, hbx1, hsz1, c0, c1, c2, c3, c4, c5, c6, c7, c8, c9, c10, c11, c12⟩ := box13 s.val 42 (.int .i64 e.hart) (.int .i64 e.kind) (.int .u32 e.addr) (.int .u32 e.value) (.int .u32 e.readv) (.bool e.aq) (.bool e.rl) (.int .i64 e.pred) (.int .i64 e.succ) (.bool e.resv) (.slice Aa' e.addrs.length ca') (.slice Ad e.datas.length cd) (.slice Ac e.ctrls.length cc)
    rw [hW1]
    have hown1 : s2.val.ownsMap Tryz.prog 40 (plainElem Tryz.prog 3) B k D := map_below (map_below hown hbx1) s2.below
    have d1 := c1 s2
    have d2 := c2 s2
    have hs2 : Below W0.heap.size W0 s2.val := (s.up hbx1 s2).below
    clear hW1 f0 f1 f2 f3 f4 f5 f6 f7 f8 f9 f10 f11 f12 b0 c0 c1 c2 c3 c4 c5 c6 c7 c8 c9 c10 c11 c12 hE hown
    generalize s2.val = wr at hown1 d1 d2 hs2 ⊢
    generalize e.kind = ek at hst d1
    generalize e.addr = a at hst hwa d2
    have HMEM := Lib.hid hmem
    clear hmem
    by_cases hk4 : ek = 4
    · subst hk4
      rw [if_pos rfl] at hst
      have HST := Lib.hid hst
      clear hst
      go_wp2
      go_roundw
      case rel => exact ⟨k + 1, by omega, by go_num, ⟨⟨wr, hs2⟩, rfl⟩, D, hown1.mono (by omega), by omega, by rw [HST.out]; exact HMEM.out⟩
      case measure => simp [intOf]; omega
    rw [if_neg hk4] at hst
    have HST := Lib.hid hst
    clear hst
    have hwf : (Lit.int .u32 a).wf = true := by
      show (decide ((0 : Int) ≤ a) && decide (a ≤ 4294967295)) = true
      rw [decide_eq_true hwa.1, decide_eq_true hwa.2]; rfl
    have hkey : keyOf Tryz.prog 40 (.int .u32 a) = some (.int .u32 a) := keyOf_int_mk Tryz.underlying40 hwf
    go_wp2_with (first
      | (at_lookup; refine wpList_lookup_own_int _ rfl _ _ 128 rfl 40 3 .i64 (int_keyed Tryz.underlying40) Tryz.underlying128 Tryz.underlying3 (zeroInt _) B k _ rfl hown1 _ _ rfl hkey ?_; intro c hat hwc)
      | (at_mapUpdate; refine wpList_mapUpdate_own _ rfl _ _ _ 128 rfl 40 3 (int_keyed Tryz.underlying40) Tryz.underlying128 _ B k _ rfl hown1 (by unfold maxLen; omega) _ _ _ rfl rfl hkey _ [] (plainElem_int Tryz.underlying3 (wrap64_wf _)) ?_; intro w2 hown2 hgrow2))
    go_roundw
    case rel =>
      refine ⟨k + 1, by omega, by go_num, ⟨⟨w2, hs2.grown hgrow2 hs2.size (fun j e => by cases e; exact hbB)⟩, rfl⟩, _, hown2, ?_, ?_⟩
      · rw [size_put (hown1.tidy (int_keyed Tryz.underlying40))]; split <;> omega
      · intro b
        rw [HST.out, mem_ins]
        by_cases hba : b = a
        · subst hba; simp [has_put_same hown1.isMap (k := .int .u32 b) trivial]
        · rw [has_put_other (by intro e; cases e; exact hba rfl)]; simp [hba, HMEM.out b]
    case measure => simp [intOf]; omega

end Go.Proofs.YtacnbdnmkmpldaaGreat
