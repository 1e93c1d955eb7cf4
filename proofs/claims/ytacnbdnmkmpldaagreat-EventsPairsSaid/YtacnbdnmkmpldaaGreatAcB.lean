/- events.Acyclic's search: the closure walked. -/
import Derived.Test.YtacnbdnmkmpldaaGreatAcA
import Derived.Test.YtacnbdnmkmpldaaGreatItI
namespace Go.Proofs.YtacnbdnmkmpldaaGreat
open Go Go.Proofs Go.RowKit Go.Maps Go.ChangeShapes Go.WideElems Q
set_option linter.unusedSimpArgs false
set_option linter.unusedVariables false

theorem cell_kept {w w' : World} {row : Option Nat} {a : Addr} {v : Value} (h : w.cell? a = some v) (hg : w.grownBy w' row) (hr : ∀ j, row = some j → ∃ o : Obj, w.heap[j]? = some o ∧ o.isCells = false) : w'.cell? a = some v := by
  have hl := World.block_lt_of_cell? w a h
  have hne : some a.block ≠ row := fun e => by
    obtain ⟨o, ho, hc⟩ := hr _ e.symm
    unfold World.cell? at h
    rw [ho] at h
    cases o <;> simp_all [Obj.isCells]
  have hb := hg.block _ hl hne
  unfold World.cell? at h ⊢
  rw [hb]; exact h
theorem ints_kept {w w' : World} {row : Option Nat} {A : Option Addr} {l : List Int} (h : Ints w A l) (hg : w.grownBy w' row) (hr : ∀ j, row = some j → ∃ o : Obj, w.heap[j]? = some o ∧ o.isCells = false) : Ints w' A l :=
  ⟨h.1, fun hp => by obtain ⟨b, off, hA, hc⟩ := h.2 hp; exact ⟨b, off, hA, fun j hj => cell_kept (hc j hj) hg hr⟩⟩
theorem owned_ints {w : World} {base : Nat} {e : TypeId} {v : Value} {zs : List Int} (h : w.ownsInts base e .i64 v zs) (hl : zs.length ≤ 17592186044416) : ∃ A c, v = .slice A zs.length c ∧ Ints w A zs := by
  rcases h.1.2 with ⟨rfl, hz⟩ | ⟨g, c, cur, rfl, r⟩
  · exact ⟨none, 0, by rw [hz], hl, fun hp => by omega⟩
  · exact ⟨_, c, rfl, hl, fun _ => ⟨g, 0, rfl, owned_cells h.1⟩⟩

/-- What the search leaves. -/
def Cleaned (Ms N n : Nat) (S : Int → Int) (r : Bool × (Int → Int)) (w : World) (e : Ending) (w' : World) : Prop :=
  e = .returned (.bool r.1) ∧ w.grownBy w' (some Ms) ∧ ∃ n', StateIs w' Ms n' r.2 ∧ n' + 2 * whites N r.2 ≤ n + 2 * whites N S

theorem dfs_seen {to : Int → List Int} {f : Nat} {S : Int → Int} {a : Int} (h : 0 < S a) : dfs to (f + 1) S a = (S a == 2, S) := by
  simp only [dfs]; rw [if_pos h]
theorem dfs_new {to : Int → List Int} {f : Nat} {S : Int → Int} {a : Int} (h : ¬ 0 < S a) : dfs to (f + 1) S a = if (runL (dfs to f) (upd S a 1) (to a)).1 = true then (true, upd (runL (dfs to f) (upd S a 1) (to a)).2 a 2) else (false, (runL (dfs to f) (upd S a 1) (to a)).2) := by
  simp only [dfs]; rw [if_neg h]
theorem whites_done {N : Nat} {S : Int → Int} {a : Int} : whites N (upd S a 2) ≤ whites N S := whites_mono fun x hx => by unfold upd; split <;> omega

set_option maxRecDepth 100000 in
set_option maxHeartbeats 4000000 in
theorem clean_any (Bs Bt Bc Ms Mt : Nat) (l : List (Int × Int)) (N : Nat) (hN : N ≤ 64) (hin : ∀ p ∈ l, 0 ≤ p.2 ∧ p.2 < N) (hl : l.length ≤ 17592186044416) : ∀ (f : Nat) (S : Int → Int) (a : Int) (n : Nat) (W : World),
    Env Bs Bt Bc Ms Mt (toOf l) W → StateIs W Ms n S → Col S → whites N S < f → 0 ≤ a → a < N → n + 2 * whites N S ≤ 1000 →
    Calls Tryz.prog 94 #[.int .i64 a, .pointer (some ⟨Bs, 0, none⟩), .pointer (some ⟨Bt, 0, none⟩), .pointer (some ⟨Bc, 0, none⟩)] W (Cleaned Ms N n S (dfs (toOf l) f S a) W)
  | 0, _, _, _, _, _, _, _, hw, _, _, _ => by omega
  | f + 1, S, a, n, W, hE, hS, hcol, hw, h0a, haN, hroom => by
    have ih := clean_any Bs Bt Bc Ms Mt l N hN hin hl f
    obtain ⟨D, hown, hD⟩ := hS
    have hwf : (Lit.int .i64 a).wf = true := by
      show (decide ((-9223372036854775808 : Int) ≤ a) && decide (a ≤ 9223372036854775807)) = true
      rw [decide_eq_true (by omega), decide_eq_true (by omega)]; rfl
    have hkey : keyOf Tryz.prog 3 (.int .i64 a) = some (.int .i64 a) := keyOf_int_mk Tryz.underlying3 hwf
    obtain ⟨sa, hsa⟩ : ∃ sa, S a = sa := ⟨_, rfl⟩
    have hDa := hD a
    rw [hsa] at hDa
    have hcs := hE.bs.cell
    by_cases hpos : 0 < sa
    · have hd : dfs (toOf l) (f + 1) S a = (sa == 2, S) := by rw [← hsa]; exact dfs_seen (by omega)
      have HD := Lib.hid hd
      have HS : StateIs W Ms n S := ⟨D, hown, hD⟩
      have HDD := Lib.hid hD
      have HDA := Lib.hid hDa
      clear hd ih hsa hD hDa hw hroom
      go_enter Tryz.func94, Tryz.ntmps94
      go_wp2_with (at_lookup; refine wpList_lookup_own_int _ rfl _ _ 105 rfl 3 3 .i64 (int_keyed Tryz.underlying3) Tryz.underlying105 Tryz.underlying3 (zeroI _) Ms n _ rfl hown _ _ rfl hkey ?_; intro c hat hwc; obtain rfl : sa = c := (by rw [HDA.out] at hat; injection hat with hat; injection hat); clear hat)
      go_ret
      unfold Cleaned
      rw [HD.out]
      exact ⟨rfl, ⟨rfl, rfl, rfl, Nat.le_refl _, fun _ _ _ => rfl⟩, n, HS, Nat.le_refl _⟩
    · have hd := dfs_new (to := toOf l) (f := f) (S := S) (a := a) (by omega)
      have hgray := whites_gray (n := N) (S := S) h0a haN (by omega)
      have hcol1 : Col (upd S a 1) := hcol.upd (by omega) (by omega)
      generalize hS1 : upd S a 1 = S1 at hd hgray hcol1
      have HD := Lib.hid hd
      have HS : StateIs W Ms n S := ⟨D, hown, hD⟩
      have hmap := hown.isMap
      have HDD := Lib.hid hD
      have HDA := Lib.hid hDa
      have HS1 := Lib.hid hS1
      have HEE := Lib.hid hE
      clear hd hsa hD hDa hS1
      go_enter Tryz.func94, Tryz.ntmps94
      go_wp2_with (first
        | (at_lookup; refine wpList_lookup_own_int _ rfl _ _ 105 rfl 3 3 .i64 (int_keyed Tryz.underlying3) Tryz.underlying105 Tryz.underlying3 (zeroI _) Ms n _ rfl hown _ _ rfl hkey ?_; intro c hat hwc; obtain rfl : sa = c := (by rw [HDA.out] at hat; injection hat with hat; injection hat); clear hat)
        | (at_mapUpdate; refine wpList_mapUpdate_own _ rfl _ _ _ 105 rfl 3 3 (int_keyed Tryz.underlying3) Tryz.underlying105 _ Ms n _ rfl hown (by unfold maxLen; omega) _ _ _ rfl rfl hkey _ [] (plainElem_int Tryz.underlying3 (by decide)) ?_; intro w2 hown2 hgrow2
           have hSt := StateIs.put hmap HDD.out hown2
           rw [HS1.out] at hSt
           have hE2 := HEE.out.kept HS hgrow2
           obtain ⟨base, kk, G, hG, hkk, hT⟩ := hE2.grp
           have hct := hE2.bt.cell
           clear hcs)
        | (at_lookup; refine wpList_lookup_groups _ rfl _ _ 113 rfl 3 23 3 .i64 (int_keyed Tryz.underlying3) Tryz.underlying113 (zeroIs _) base Mt kk _ rfl hG (by unfold maxLen; omega) _ _ rfl hkey ?_; intro v zs hat hoi hzl hback
           have hzt := hT a v zs _ _ _ hoi hat
           obtain ⟨A, cz, rfl, hIz⟩ := owned_ints hoi (by omega)
           have hzl2 := hIz.1
           have HZT := Lib.hid hzt
           clear hzt hback hat))
      have hwm := fun (k : Nat) => whites_mono (n := N) (S := S1) (S' := (runL (dfs (toOf l) f) S1 (zs.take k)).2) ((runL_keeps (fun S b => dfs_keeps (toOf l) f S b) (zs.take k) S1 hcol1).2)
      have hck := fun (k : Nat) => (runL_keeps (fun S b => dfs_keeps (toOf l) f S b) (zs.take k) S1 hcol1).1
      have HWM := Lib.hid hwm
      have HCK := Lib.hid hck
      have hel : ∀ k, k < zs.length → 0 ≤ zs[k]?.getD 0 ∧ zs[k]?.getD 0 < N := fun k hk => by
        have hm : zs[k]?.getD 0 ∈ toOf l a := by rw [← HZT.out, List.getElem?_eq_getElem hk]; exact List.getElem_mem hk
        exact hin _ ((mem_toOf _ _).1 hm)
      have HEL := Lib.hid hel
      have hmw : ∃ o : Obj, w2.heap[Ms]? = some o ∧ o.isCells = false := by obtain ⟨es, clock, hb, _⟩ := hown2; exact ⟨_, hb, rfl⟩
      have HMW := Lib.hid hmw
      clear hwm hck hel hmw hown hown2 hct hcol hmap
      go_loopw [22] (fun i wr => ∃ k : Nat, k ≤ zs.length ∧ i = .int .i64 k ∧ (runL (dfs (toOf l) f) S1 (zs.take k)).1 = true ∧ w2.grownBy wr (some Ms) ∧ ∃ n', StateIs wr Ms n' (runL (dfs (toOf l) f) S1 (zs.take k)).2 ∧ n' + 2 * whites N (runL (dfs (toOf l) f) S1 (zs.take k)).2 ≤ n + 1 + 2 * whites N S1)
        (fun i _ => zs.length - (intOf i).toNat)
      case atStart => exact ⟨0, Nat.zero_le _, rfl, rfl, ⟨rfl, rfl, rfl, Nat.le_refl _, fun _ _ _ => rfl⟩, n + 1, hSt, Nat.le_refl _⟩
      case round =>
        obtain ⟨k, hk, rfl, hrun, hgr, n', hSr, hnr⟩ := hrel
        have hEr := hE2.kept hSt hgr
        have hIr := ints_kept hIz hgr (fun j e => by cases e; exact HMW.out)
        have HRUN := Lib.hid hrun
        have HSR := Lib.hid hSr
        clear hrun
        by_cases hlt : k < zs.length
        · obtain ⟨g, off, rfl, hcz⟩ := hIr.2 (by omega)
          have hcx := hcz k hlt
          obtain ⟨b, hb⟩ : ∃ b, zs[k]?.getD 0 = b := ⟨_, rfl⟩
          have hbr := HEL.out k hlt
          rw [hb] at hcx hbr
          have HB := Lib.hid hb
          have hcc := hEr.bc.cell
          have hwk := HWM.out k
          have cI := ih _ b n' wr hEr HSR.out (HCK.out k) (by omega) hbr.1 hbr.2 (by omega)
          have CI := Lib.hid cI
          clear hb cI hcz hSr hIr hwk
          go_wp2_with (go_at_call 94; refine CI.out.mono ?_; rintro e w4 ⟨rfl, hg4, n4, hS4, hn4⟩; generalize hr : (dfs (toOf l) f (runL (dfs (toOf l) f) S1 (zs.take k)).2 b).1 = rb; have HR := Lib.hid hr; clear hr; cases rb)
          · go_ret
            unfold Cleaned
            have hno := runL_no hlt HB.out HRUN.out HR.out
            rw [HZT.out] at hno
            rw [HD.out, hno]
            exact ⟨rfl, (hgrow2.trans hgr).trans hg4, n4, by rw [← HZT.out]; exact hS4, by rw [← HZT.out]; show n4 + 2 * whites N (dfs (toOf l) f (runL (dfs (toOf l) f) S1 (zs.take k)).2 b).2 ≤ _; omega⟩
          · have hyes := runL_yes hlt HB.out HRUN.out HR.out
            go_roundw
            case rel => exact ⟨k + 1, by omega, by go_num, by rw [hyes], hgr.trans hg4, n4, by rw [hyes]; exact hS4, by rw [hyes]; show n4 + 2 * whites N (dfs (toOf l) f (runL (dfs (toOf l) f) S1 (zs.take k)).2 b).2 ≤ _; omega⟩
            case measure => simp [intOf]; omega
        · obtain rfl : k = zs.length := by omega
          have hcs := hEr.bs.cell
          obtain ⟨D3, hown3, hD3⟩ := hSr
          have hmap3 := hown3.isMap
          have HD3 := Lib.hid hD3
          have hwk := HWM.out zs.length
          clear hD3
          go_wp2_with (at_mapUpdate; refine wpList_mapUpdate_own _ rfl _ _ _ 105 rfl 3 3 (int_keyed Tryz.underlying3) Tryz.underlying105 _ Ms n' _ rfl hown3 (by unfold maxLen; omega) _ _ _ rfl rfl hkey _ [] (plainElem_int Tryz.underlying3 (by decide)) ?_; intro w5 hown5 hgrow5; have hS5 := StateIs.put hmap3 HD3.out hown5; clear hcs)
          go_ret
          unfold Cleaned
          have hrun := HRUN.out
          rw [List.take_length] at hrun hS5 hnr
          rw [HZT.out] at hrun hS5 hnr
          rw [HD.out, if_pos hrun]
          have hdn := whites_done (N := N) (S := (runL (dfs (toOf l) f) S1 (toOf l a)).2) (a := a)
          exact ⟨rfl, (hgrow2.trans hgr).trans hgrow5, n' + 1, hS5, by show n' + 1 + 2 * whites N (upd (runL (dfs (toOf l) f) S1 (toOf l a)).2 a 2) ≤ _; omega⟩
end Go.Proofs.YtacnbdnmkmpldaaGreat
