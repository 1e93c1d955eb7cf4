/- events.Check: may an execution be? -/
import Derived.Test.YtacnbdnmkmpldaaGreatEvD
import Derived.Test.YtacnbdnmkmpldaaGreatEvG
import Derived.ScopeJumps
import Derived.WalkMore
namespace Go.Proofs.YtacnbdnmkmpldaaGreat
open Go.RowKit Q
set_option linter.unusedSimpArgs false
set_option linter.unusedVariables false

def evsTo (x : Ex) (k : Nat) : Bool := (List.range k).all fun n => eventB x n (addrsOf x.evs).length (addrsOf x.evs)
theorem evsTo_succ (x : Ex) (k : Nat) : evsTo x (k + 1) = (evsTo x k && eventB x k (addrsOf x.evs).length (addrsOf x.evs)) := by
  simp [evsTo, List.range_succ, List.all_append]
theorem addrsOf_len (x : Ex) : (addrsOf x.evs).length ≤ x.evs.length := by
  have := addrsTo_len x x.evs.length (Nat.le_refl _)
  have hall : addrsTo x x.evs.length = addrsOf x.evs := by simp [addrsTo, addrsOf]
  rwa [hall] at this
theorem check_long {x : Ex} (h : 64 < x.evs.length) : checkV x = 3 := by unfold checkV; rw [if_pos h]
theorem check_ev {x : Ex} (h : ¬ 64 < x.evs.length) {k : Nat} (hk : k < x.evs.length) (he : eventB x k (addrsOf x.evs).length (addrsOf x.evs) = false) : checkV x = 160 := by
  unfold checkV
  rw [if_neg h, all_range_false hk he]; rfl
theorem check_rest {x : Ex} (h : ¬ 64 < x.evs.length) (he : evsTo x x.evs.length = true) : checkV x = if !srcB x then 161 else if !orderB x (addrsOf x.evs) then 162 else 0 := by
  unfold checkV evsTo at *
  rw [if_neg h, he]; rfl

/-- The frame at a jump. -/
def Out (n : Nat) (r : Int) (w0 : World) (a : Act) (w : World) : Prop :=
  ∃ v0 v1 u3 u4 u5 u6 u7 u8 u9 u10 u11 u12 u13 u14 u15 u16 u17 u18 u19 u20 u21 u22 u23 u24 u25 u26 u27 u28 u29 u30 u31 u32 u33 u34 u35 u36 u37 u38 u39 : Value, a = { tmps := #[v0, v1, .int .i64 r, u3, u4, u5, u6, u7, u8, u9, u10, u11, u12, u13, u14, u15, u16, u17, u18, u19, u20, u21, u22, u23, u24, u25, u26, u27, u28, u29, u30, u31, u32, u33, u34, u35, u36, u37, u38, u39], defers := [] } ∧ Below n w0 w

set_option maxRecDepth 100000 in
set_option maxHeartbeats 4000000 in
theorem check_any (x : Ex) (hok : ExOk x) (Ae Af Ao : Option Addr) (ce cf co : Nat) (w : World) (he : Evs w Ae x.evs) (hf : Ints w Af x.src) (ho : Q.Rows w Ao x.order) :
    Calls Tryz.prog 54 #[.agg #[.slice Ae x.evs.length ce, .slice Af x.src.length cf, .slice Ao x.order.length co]] w fun r w' =>
      r = .returned (.int .i64 (checkV x)) ∧ Below w.heap.size w w' := by
  have hx0 := he.1
  have hf0 := hf.1
  have ho0 := ho.1
  go_enter Tryz.func54, Tryz.ntmps54
  go_wp2
  obtain ⟨W0, s0, hW0, hbx, hsz, b0, b1, b2⟩ := box3 w 26 (.slice Ae x.evs.length ce) (.slice Af x.src.length cf) (.slice Ao x.order.length co)
  rw [hW0]
  clear hW0
  have he0 := he.below hbx
  have hf1 := hf.below hbx
  have ho1 := ho.below hbx
  clear he hf ho
  have hend : ∀ s : Fut W0, Below w.heap.size w s.val := fun s => hbx.trans (s.below.mono (Nat.le_of_lt hsz))
  have HEND := Lib.hid hend
  clear hend
  refine wp_scope_jumps 0 (Out w.heap.size (checkV x) w) (fun _ _ => 0) rfl ?_ ?_
  case refine_2 =>
    rintro a w1 ⟨v0, v1, u3, u4, u5, u6, u7, u8, u9, u10, u11, u12, u13, u14, u15, u16, u17, u18, u19, u20, u21, u22, u23, u24, u25, u26, u27, u28, u29, u30, u31, u32, u33, u34, u35, u36, u37, u38, u39, rfl, hb⟩
    go_wp2
    simp only [Exit.jump]
    go_ret
    exact ⟨rfl, hb⟩
  by_cases hlong : 64 < x.evs.length
  · go_wp2
    simp only [Exit.jump]
    go_ret
    exact ⟨ret_int (check_long hlong), HEND.out s0⟩
  have hev0 : ∀ s : Fut W0, Evs s.val Ae x.evs := fun s => he0.fut s
  have hlen := addrsOf_len x
  go_upto_region 3 with (fail)
  go_wp2_with fail
  refine (addrs_any x hok Ae ce _ _ _ (hev0 _)).mono ?_
  rintro e w1 ⟨Aa, ca, rfl, hua, hba⟩
  have c0 : ∀ s : Fut w1, s.val.cell? ⟨w.heap.size, 0, none⟩ = some (.slice Ae x.evs.length ce) := fun s => b0 (s0.up hba s)
  have c1 : ∀ s : Fut w1, s.val.cell? ⟨w.heap.size, 1, none⟩ = some (.slice Af x.src.length cf) := fun s => b1 (s0.up hba s)
  have c2 : ∀ s : Fut w1, s.val.cell? ⟨w.heap.size, 2, none⟩ = some (.slice Ao x.order.length co) := fun s => b2 (s0.up hba s)
  have d0 : w1.cell? ⟨w.heap.size, 0, none⟩ = some (.slice Ae x.evs.length ce) := c0 ⟨w1, Below.refl _ _⟩
  have d1 : w1.cell? ⟨w.heap.size, 1, none⟩ = some (.slice Af x.src.length cf) := c1 ⟨w1, Below.refl _ _⟩
  have d2 : w1.cell? ⟨w.heap.size, 2, none⟩ = some (.slice Ao x.order.length co) := c2 ⟨w1, Below.refl _ _⟩
  have hw1 : Below w.heap.size w w1 := (HEND.out s0).trans (hba.mono (HEND.out s0).size)
  have hend : ∀ s : Fut w1, Below w.heap.size w s.val := fun s => hw1.trans (s.below.mono hw1.size)
  have HE1 := Lib.hid hend
  have he1 := (he0.fut s0).below hba
  have hf2 := (hf1.fut s0).below hba
  have ho2 := (ho1.fut s0).below hba
  clear b0 b1 b2 he0 hf1 ho1 HEND hev0 hend hw1 hba
  have q8 : decide ((64 : Int) < (x.evs.length : Int)) = false := decide_eq_false (by omega)
  have q16 : decide (x.evs.length < (addrsOf x.evs).length) = false := decide_eq_false (by omega)
  go_wp2
  go_loopw [21] (fun i wr => ∃ k : Nat, k ≤ x.evs.length ∧ i = .int .i64 k ∧ evsTo x k = true ∧ ∃ s : Fut w1, wr = s.val) (fun i _ => x.evs.length - (intOf i).toNat)
  case atStart => exact ⟨0, Nat.zero_le _, rfl, rfl, ⟨w1, Below.refl _ _⟩, rfl⟩
  case round =>
    obtain ⟨k, hk, rfl, hT, s, rfl⟩ := hrel
    have HT := Lib.hid hT
    clear hT
    by_cases hlt : k < x.evs.length
    · have hes := he1.fut s
      have hus := hua.fut s
      clear d0 d1 d2
      have d0 := c0 s
      have d1 := c1 s
      have d2 := c2 s
      go_wp2_with fail
      refine (event_any x Ae Aa ce ca _ _ k (addrsOf x.evs).length (addrsOf x.evs) _ hes hus hlt hlen rfl hok).mono ?_
      rintro e w2 ⟨rfl, hb2⟩
      generalize hev : eventB x k (addrsOf x.evs).length (addrsOf x.evs) = bq
      have HEV := Lib.hid hev
      clear hev hes hus d0 d1 d2
      cases bq
      · go_wp2
        go_step3
        refine ⟨rfl, ?_⟩
        unfold Out
        rw [check_ev hlong hlt HEV.out]
        (repeat apply Exists.intro)
        exact ⟨rfl, (HE1.out s).trans (hb2.mono (HE1.out s).size)⟩
      · go_wp2
        go_roundw
        case rel => exact ⟨k + 1, by omega, by go_num, by rw [evsTo_succ, HT.out, HEV.out]; rfl, ⟨w2, s.below.trans (hb2.mono s.below.size)⟩, rfl⟩
        case measure => simp [intOf]; omega
    · clear d0 d1 d2
      have d0 := c0 s
      have d1 := c1 s
      have d2 := c2 s
      have hfs := hf2.fut s
      have hes := he1.fut s
      have hus := hua.fut s
      have hos := ho2.fut s
      have hke : k = x.evs.length := by omega
      subst hke
      have hrest := check_rest hlong HT.out
      have HR := Lib.hid hrest
      clear hrest
      go_wp2_with fail
      refine (from_any x Ae Af ce cf _ _ hes hfs).mono ?_
      rintro e w2 ⟨rfl, hb2⟩
      generalize hev : srcB x = bq
      have HEV := Lib.hid hev
      clear hev hes hus hos hfs d0 d1 d2
      obtain ⟨s2, rfl⟩ : ∃ s2 : Fut w1, w2 = s2.val := ⟨⟨w2, s.below.trans (hb2.mono s.below.size)⟩, rfl⟩
      have d0 := c0 s2
      have d1 := c1 s2
      have d2 := c2 s2
      cases bq
      · go_wp2
        go_step3
        refine ⟨rfl, ?_⟩
        unfold Out
        rw [HR.out, HEV.out]
        (repeat apply Exists.intro)
        exact ⟨rfl, HE1.out s2⟩
      · have hes := he1.fut s2
        have hus := hua.fut s2
        have hos := ho2.fut s2
        go_wp2_with fail
        refine (order_any x _ _ _ _ _ _ _ _ _ hes hos hus).mono ?_
        rintro e w3 ⟨rfl, hb3⟩
        generalize hov : orderB x (addrsOf x.evs) = bo
        have HOV := Lib.hid hov
        clear hov hes hus hos
        cases bo
        · go_wp2
          go_step3
          refine ⟨rfl, ?_⟩
          unfold Out
          rw [HR.out, HEV.out, HOV.out]
          (repeat apply Exists.intro)
          exact ⟨rfl, (HE1.out s2).trans (hb3.mono (HE1.out s2).size)⟩
        · go_wp2
          simp only [Exit.jump]
          go_ret
          exact ⟨ret_int (by rw [HR.out, HEV.out, HOV.out]; rfl), (HE1.out s2).trans (hb3.mono (HE1.out s2).size)⟩
end Go.Proofs.YtacnbdnmkmpldaaGreat
