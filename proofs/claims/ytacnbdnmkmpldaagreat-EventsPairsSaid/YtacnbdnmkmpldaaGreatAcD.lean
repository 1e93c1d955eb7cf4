/- events.Acyclic: the arrows laid in a map. -/
import Derived.Test.YtacnbdnmkmpldaaGreatAcB
import Derived.Test.YtacnbdnmkmpldaaGreatAcC
import Derived.Deep.RegionHeld3
import Derived.Deep.AppendLies
import Derived.Laws.EntriesVeiled
namespace Go.Proofs.YtacnbdnmkmpldaaGreat
open Go Go.Proofs Go.RowKit Go.Maps Go.ChangeShapes Go.WideElems Q
set_option linter.unusedSimpArgs false
set_option linter.unusedVariables false

theorem toOf_succ {l : List (Int × Int)} {k : Nat} {x : Int × Int} (hk : k < l.length) (hx : l[k]?.getD (0, 0) = x) : toOf (l.take (k + 1)) = fun b => if b = x.1 then toOf (l.take k) x.1 ++ [x.2] else toOf (l.take k) b := by
  rw [List.getElem?_eq_getElem hk] at hx
  have hx : l[k] = x := hx
  funext b
  rw [List.take_add_one, List.getElem?_eq_getElem hk]
  simp only [toOf, Option.toList_some, List.filter_append, List.map_append, hx]
  by_cases hb : b = x.1
  · rw [if_pos hb]; subst hb; simp
  · rw [if_neg hb]
    have : (x.1 == b) = false := by simp; exact fun h => hb h.symm
    simp [this]

section
variable {P : Program} {w : World} {ops : Array Oper} {o : Oper} {a : Act} {K : Act → World → Prop} {Q : Exit → Act → World → Prop} {E : Prop}
theorem step_lookup_groups {H : Type} (hg : o.guard = none) (m x : Operand) (t : TypeId) (hop : o.op = Op.lookup t m x false)
    (k T e : TypeId) (q : IntKind) (KK : Keyed P k) (ht : P.underlying t = some (.map k T)) (hz : (zeroValue T).run P w = .ok (.slice none 0 0) w) (base b n : Nat) (D : DataW H)
    (hm : a.eval m = .map (some b)) (hown : w.ownsGroups P k base e q b n D) (hn : n < maxLen) (key : Value) (kl : Lit) (hx : a.eval x = key) (hkey : keyOf P k key = some kl)
    (hK : ∀ v zs, D.atKey kl .nil = rowDatum q v zs → w.ownsInts base e q v zs → zs.length ≤ n → w.groupBack P t k base e q b n D key kl v → K (a.put o.dst v) w) :
    if Region.wanted o (yielded ops a.tmps) = true then Oper.wp P o a w K Q else E := by
  rw [if_pos (by simp [Region.wanted, hg])]
  obtain ⟨v, zs, hrun, hat, hoi, hzl, hback⟩ := hown.at KK ht hz hn hkey
  unfold Oper.wp
  simp [execOp, hop, hm, hx, hrun, Result.andThen]
  exact hK v zs hat hoi hzl hback
theorem step_mapUpdate_back {H : Type} (hg : o.guard = none) (m x v : Operand) (t : TypeId) (hop : o.op = Op.mapUpdate t m x v)
    {w0 : World} {k : TypeId} {base : Nat} {e : TypeId} {q : IntKind} {b n : Nat} {D : DataW H} {key : Value} {kl : Lit} {u v' : Value} {zs' : List Int}
    (hback : w0.groupBack P t k base e q b n D key kl u) (hm : a.eval m = .map (some b)) (hx : a.eval x = key) (hv : a.eval v = v')
    (hgr : w0.grownBy w u.ownBlock) (hown' : w.ownsInts base e q v' zs') (hl' : zs'.length ≤ n + 1) (hloc : v'.ownBlock = u.ownBlock ∨ ∃ g, v'.ownBlock = some g ∧ w0.heap.size ≤ g)
    (hK : ∀ w2, w2.ownsGroups P k base e q b (n + 1) (D.put kl (rowDatum q v' zs')) → w.grownBy w2 (some b) → K (a.put o.dst undef) w2) :
    if Region.wanted o (yielded ops a.tmps) = true then Oper.wp P o a w K Q else E := by
  rw [if_pos (by simp [Region.wanted, hg])]
  obtain ⟨w2, hrun, r1, r2⟩ := hback w v' zs' hgr hown' hl' hloc
  unfold Oper.wp
  simp [execOp, hop, hm, hx, hv, hrun, Result.andThen]
  exact hK w2 r1 r2
end

theorem grown_drew (w : World) (row : Option Nat) : w.grownBy w.drew row := ⟨rfl, rfl, rfl, Nat.le_refl _, fun _ _ _ => rfl⟩
theorem grown_alloc_drew (w : World) (o : Obj) (row : Option Nat) : w.grownBy (w.alloc o).drew row := (World.grownBy_alloc w o row).trans (grown_drew _ _)
theorem groups_drew {w : World} {k : TypeId} {base : Nat} {e : TypeId} {b n : Nat} {G : DataW Unit} (h : w.ownsGroups Tryz.prog k base e .i64 b n G) : w.drew.ownsGroups Tryz.prog k base e .i64 b n G := groups_kept h (grown_drew w none) (fun j e => by cases e)
theorem groups_alloc {w : World} {k : TypeId} {base : Nat} {e : TypeId} {b n : Nat} {G : DataW Unit} (h : w.ownsGroups Tryz.prog k base e .i64 b n G) (o : Obj) : (w.alloc o).ownsGroups Tryz.prog k base e .i64 b n G := groups_kept h (World.grownBy_alloc w o none) (fun j e => by cases e)

theorem Boxed2.kept {W W' : World} {row : Option Nat} {B : Nat} {t : TypeId} {v0 v1 : Value} (h : Boxed2 W B t v0 v1) (hg : W.grownBy W' row) (hne : some B ≠ row) : Boxed2 W' B t v0 v1 := (hg.block B h.lt hne).trans h
theorem Boxed2.not_row {W : World} {B : Nat} {t e : TypeId} {u0 u1 : Value} (h : Boxed2 W B t u0 u1) (hte : t ≠ e) {base size k : Nat} {v : Value} {xs : List Value} (hr : W.ownsRow base e size v k xs) : some B ≠ v.ownBlock := by
  intro hv
  rcases hr.2 with ⟨rfl, _⟩ | ⟨g, cap, cur, rfl, _, hgb, _⟩
  · simp [Value.ownBlock] at hv
  · obtain rfl : B = g := by simpa [Value.ownBlock] using hv
    rw [show W.heap[B]? = _ from h] at hgb
    injection hgb with hgb; injection hgb with _ h2 _; exact hte h2
theorem isMap_groups {w : World} {k : TypeId} {base : Nat} {e : TypeId} {b n : Nat} {G : DataW Unit} (h : w.ownsGroups Tryz.prog k base e .i64 b n G) : IsMap G := by
  obtain ⟨es, clock, _, _, _, rfl, _⟩ := h
  exact ⟨_, rfl⟩

theorem groups_step {G : DataW Unit} {l : List (Int × Int)} {k : Nat} {x0 x1 : Int} {v v' : Value} {zs : List Int} {w0 w3 : World} {base base' : Nat} {e e' : TypeId} (hk : k < l.length) (hx : l[k]?.getD (0, 0) = (x0, x1)) (hT : GroupsAre G (toOf (l.take k))) (hm : IsMap G)
    (hoi : w0.ownsInts base e .i64 v zs) (hat : G.atKey (.int .i64 x0) .nil = rowDatum .i64 v zs) (ho : w3.ownsInts base' e' .i64 v' (zs ++ [x1])) : GroupsAre (G.put (.int .i64 x0) (rowDatum .i64 v' (zs ++ [x1]))) (toOf (l.take (k + 1))) := by
  obtain rfl := hT x0 v zs _ _ _ hoi hat
  rw [toOf_succ hk hx]
  exact hT.put hm ho

set_option maxRecDepth 100000 in
set_option maxHeartbeats 4000000 in
theorem acyclic_any (n : Int) (l : List (Int × Int)) (A : Option Addr) (c : Nat) (w : World) (hl : Prs w A l) (hlen : l.length ≤ 100000) :
    Calls Tryz.prog 55 #[.int .i64 n, .slice A l.length c] w fun e w' => e = .returned (.bool (acyclicV n l)) ∧ Below w.heap.size w w' := by
  obtain ⟨i0, hi, hz0, hz1, hz2⟩ := info_parts infoI
  have hmm := @run_makeMap Tryz.prog
  go_enter Tryz.func55, Tryz.ntmps55
  go_upto_region 1 with (fail)
  have bN := Boxed.new w 3 (.int .i64 n)
  obtain ⟨W0, hW0⟩ : ∃ W0, w.alloc (.cells #[.int .i64 n] 3) = W0 := ⟨_, rfl⟩
  have hB0 : Below w.heap.size w W0 := by rw [← hW0]; exact (Below.refl _ _).alloc (Nat.le_refl _) _
  have hsz0 : W0.heap.size = w.heap.size + 1 := by rw [← hW0]; simp
  rw [hW0] at bN ⊢
  clear hW0
  have hl0 := hl.below hB0
  have hcn := bN.cell
  by_cases h1 : n < 0
  · have hv : acyclicV n l = false := by unfold acyclicV; rw [if_pos (.inl h1)]
    have HV := Lib.hid hv
    clear hv
    go_wp2
    go_ret
    exact ⟨ret_bool HV.out, hB0⟩
  by_cases h2 : 64 < n
  · have hv : acyclicV n l = false := by unfold acyclicV; rw [if_pos (.inr (.inl h2))]
    have HV := Lib.hid hv
    clear hv
    go_wp2
    go_ret
    exact ⟨ret_bool HV.out, hB0⟩
  have hC := Lib.hid (contains_any n w.heap.size l A c W0 hcn hl0)
  go_upto_region 3 with (first | (go_at_call 92; refine hC.out.mono ?_; rintro e w1 ⟨rfl, hb1⟩; generalize hany : l.any (outP n) = ba; have HANY := Lib.hid hany; clear hany; cases ba))
  · have hin := Lib.hid (out_in (n := n) (l := l) (by omega) (by rw [HANY.out]; simp))
    have hv : acyclicV n l = (dfsAll (toOf l) (n.toNat + 1) n.toNat).1 := by
      unfold acyclicV
      rw [if_neg]
      rintro (h | h | h)
      · omega
      · omega
      · rw [HANY.out] at h; cases h
    have HV := Lib.hid hv
    have bN1 : Boxed w1 w.heap.size 3 (.int .i64 n) := (hb1.block _ bN.lt).trans bN
    have hB1 := hB0.trans (hb1.mono hB0.size)
    have hl1 := hl0.below hb1
    have hsz1 : w.heap.size < w1.heap.size := Nat.lt_of_lt_of_le bN.lt hb1.size
    clear hv hl0 hb1 hB0 hcn bN hsz0
    go_upto_region 4 with (fail)
    have hg0 := World.ownsGroups_made (H := Unit) w1 Tryz.prog 3 3 .i64
    have hg1 := groups_alloc hg0 (.cells #[.map (some w1.heap.size)] 113)
    have bT0 := Boxed.new (w1.alloc (.map #[] 0)) 113 (.map (some w1.heap.size))
    have hB2 : Below w.heap.size w ((w1.alloc (.map #[] 0)).alloc (.cells #[.map (some w1.heap.size)] 113)) := (hB1.alloc hB1.size _).alloc (by have := hB1.size; simp; omega) _
    have hB3 : Below w1.heap.size w1 ((w1.alloc (.map #[] 0)).alloc (.cells #[.map (some w1.heap.size)] 113)) := ((Below.refl _ _).alloc (Nat.le_refl _) _).alloc (by simp) _
    rw [World.size_alloc] at bT0
    obtain ⟨W2, hW2⟩ : ∃ W2, (w1.alloc (.map #[] 0)).alloc (.cells #[.map (some w1.heap.size)] 113) = W2 := ⟨_, rfl⟩
    have hsz2 : w1.heap.size + 2 ≤ W2.heap.size := by rw [← hW2]; simp
    rw [hW2] at hg1 bT0 hB2 hB3 ⊢
    clear hW2 hg0
    have hl2 := hl1.below hB3
    have bN2 : Boxed W2 w.heap.size 3 (.int .i64 n) := (hB3.block _ bN1.lt).trans bN1
    generalize w1.heap.size = Mt at hg1 bT0 hsz1 hsz2 ⊢
    clear hB1 hl1 hB3 bN1
    have HMM := Lib.hid hmm
    clear hmm
    have hlb := hl2.1
    go_wp2
    go_loopw [25] (fun i wr => ∃ k : Nat, k ≤ l.length ∧ i = .int .i64 k ∧ Below Mt W2 wr ∧ Boxed wr (Mt + 1) 113 (.map (some Mt)) ∧
        ∃ G : DataW Unit, wr.ownsGroups Tryz.prog 3 (Mt + 1) 3 .i64 Mt k G ∧ GroupsAre G (toOf (l.take k))) (fun i _ => l.length - (intOf i).toNat)
    case atStart => exact ⟨0, Nat.zero_le _, rfl, Below.refl _ _, bT0, _, hg1, by rw [show toOf (l.take 0) = fun _ => [] from funext fun _ => rfl]; exact GroupsAre.made⟩
    case round =>
      obtain ⟨k, hk, rfl, hBr, bTr, G, hG, hT⟩ := hrel
      have hszr := hBr.size
      have hlr := hl.below (hB2.trans (hBr.mono (Nat.le_of_lt hsz1)))
      by_cases hlt : k < l.length
      · obtain ⟨b, off, rfl, hcs⟩ := hlr.2 (by omega)
        obtain ⟨hc0, hc1⟩ := hcs k hlt
        obtain ⟨x, hx⟩ : ∃ x, l[k]?.getD (0, 0) = x := ⟨_, rfl⟩
        rw [hx] at hc0 hc1
        obtain ⟨x0, x1⟩ := x
        dsimp only at hc0 hc1
        have HX := Lib.hid hx
        have HT := Lib.hid hT
        have hplace := out_in (n := n) (l := l) (by omega) (by rw [HANY.out]; simp) (x0, x1) (by have := HX.out; rw [List.getElem?_eq_getElem hlt] at this; rw [← (show l[k] = (x0, x1) from this)]; exact List.getElem_mem hlt)
        dsimp only at hplace
        have HL := Lib.hid hl
        clear hx hcs hT hg1 bT0 bN2 hl2 hB2 hl hlr
        go_upto_region 7 with (fail)
        have bP := Boxed2.new wr 38 (.int .i64 x0) (.int .i64 x1)
        have bTW : Boxed (wr.alloc (.cells #[.int .i64 x0, .int .i64 x1] 38)) (Mt + 1) 113 (.map (some Mt)) := bTr.alloc _
        have hGW := groups_alloc hG (.cells #[.int .i64 x0, .int .i64 x1] 38)
        have hgW := World.grownBy_alloc wr (.cells #[.int .i64 x0, .int .i64 x1] 38) none
        have hsW : (wr.alloc (.cells #[.int .i64 x0, .int .i64 x1] 38)).heap.size = wr.heap.size + 1 := by simp
        obtain ⟨W, hW⟩ : ∃ W, wr.alloc (.cells #[.int .i64 x0, .int .i64 x1] 38) = W := ⟨_, rfl⟩
        rw [hW] at bP bTW hGW hgW hsW ⊢
        clear hW
        have hp0 := bP.cell0
        have hp1 := bP.cell1
        have hct := bTW.cell
        have hszr2 : Mt + 2 ≤ wr.heap.size := by omega
        generalize wr.heap.size = Bp at bP hp0 hp1 hsW hszr ⊢
        have hwf : (Lit.int .i64 x0).wf = true := by
          show (decide ((-9223372036854775808 : Int) ≤ x0) && decide (x0 ≤ 9223372036854775807)) = true
          rw [decide_eq_true (by omega), decide_eq_true (by omega)]; rfl
        have hwf1 : (Lit.int .i64 x1).wf = true := by
          show (decide ((-9223372036854775808 : Int) ≤ x1) && decide (x1 ≤ 9223372036854775807)) = true
          rw [decide_eq_true (by omega), decide_eq_true (by omega)]; rfl
        have hkey : keyOf Tryz.prog 3 (.int .i64 x0) = some (.int .i64 x0) := keyOf_int_mk Tryz.underlying3 hwf
        have hsW1 : Bp < W.heap.size := by omega
        have HSW := Lib.hid hsW
        clear hsW
        obtain ⟨v, zs, hrun, hat, hoi, hzl, hback⟩ := (groups_drew hGW).at (int_keyed Tryz.underlying3) Tryz.underlying113 (zeroIs _) (by unfold maxLen; omega) hkey
        obtain ⟨v2, zs2, hrun2, hat2, hoi2, hzl2, hback2⟩ := (groups_drew (groups_alloc hGW (.cells #[.int .i64 x1] 3))).at (int_keyed Tryz.underlying3) Tryz.underlying113 (zeroIs _) (by unfold maxLen; omega) hkey
        have HBK := Lib.hid hback
        have HBK2 := Lib.hid hback2
        have HAT := Lib.hid hat
        have HAT2 := Lib.hid hat2
        have nT := (bTW.kept (grown_drew W none) (by simp)).not_row (by decide) hoi.1
        have nP := (bP.kept (grown_drew W none) (by simp)).not_row (by decide) hoi.1
        have nT2 := (bTW.kept (grown_alloc_drew W (.cells #[.int .i64 x1] 3) none) (by simp)).not_row (by decide) hoi2.1
        have nP2 := (bP.kept (grown_alloc_drew W (.cells #[.int .i64 x1] 3) none) (by simp)).not_row (by decide) hoi2.1
        have hBA : Below Mt W2 (W.alloc (.cells #[.int .i64 x1] 3)).drew := (hBr.grown hgW (by omega) (fun j e => by cases e)).grown (grown_alloc_drew W _ none) (by omega) (fun j e => by cases e)
        have hMs : Mt ≤ (W.alloc (.cells #[.int .i64 x1] 3)).drew.heap.size := by simp; omega
        have bTA := bTW.kept (grown_alloc_drew W (.cells #[.int .i64 x1] 3) none) (by simp)
        have HBA := Lib.hid hBA
        have HMS := Lib.hid hMs
        clear hBA hMs
        have hA0 : (W.alloc (.cells #[.int .i64 x1] 3)).drew.cell? ⟨Mt + 1, 0, none⟩ = some (.map (some Mt)) := cell_kept hct (grown_alloc_drew W _ none) (fun j e => by cases e)
        have hA1 : (W.alloc (.cells #[.int .i64 x1] 3)).drew.cell? ⟨Bp, 0, none⟩ = some (.int .i64 x0) := cell_kept hp0 (grown_alloc_drew W _ none) (fun j e => by cases e)
        have hA2 : (W.alloc (.cells #[.int .i64 x1] 3)).drew.cell? ⟨Bp, 1, none⟩ = some (.int .i64 x1) := cell_kept hp1 (grown_alloc_drew W _ none) (fun j e => by cases e)
        have m1 : (some (Mt + 1) : Option Nat) ≠ some Mt := by simp
        have m2 : (some Bp : Option Nat) ≠ some Mt := by intro e; injection e; omega
        clear hback hback2 hat hat2
        go_region_held3 (fun w' => w'.cell? ⟨Mt + 1, 0, none⟩ = some (.map (some Mt)) ∧ w'.cell? ⟨Bp, 0, none⟩ = some (.int .i64 x0) ∧ w'.cell? ⟨Bp, 1, none⟩ = some (.int .i64 x1))
          (first
            | go_keep
            | (exact ⟨hgrow3.cell hA0 nT, hgrow3.cell hA1 nP, hgrow3.cell hA2 nP⟩)
            | (exact ⟨hgrow3.cell hA0 nT2, hgrow3.cell hA1 nP2, hgrow3.cell hA2 nP2⟩)
            | (exact ⟨hgrow4.cell (hgrow3.cell hA0 nT) m1, hgrow4.cell (hgrow3.cell hA1 nP) m2, hgrow4.cell (hgrow3.cell hA2 nP) m2⟩)
            | (exact ⟨hgrow4.cell (hgrow3.cell hA0 nT2) m1, hgrow4.cell (hgrow3.cell hA1 nP2) m2, hgrow4.cell (hgrow3.cell hA2 nP2) m2⟩))
          (first
            | (refine step_append_lies _ (by rfl) _ _ _ (by rfl) (Mt + 1) 3 i0 _ 1 8 Tryz.underlying23 hi hz0 hz1 hz2 rfl (by omega) v zs.length (zs.map (Value.int .i64)) (by rfl) (hoi.1.alloc _) ⟨W.heap.size, 0, none⟩ 1 1 [.int .i64 x1] (by rfl) (by rfl) (World.news_of_block (cs := #[.int .i64 x1]) (t := 3) (fr := (0, 0)) (heap_alloc_new W _)) (by simp [Value.oneCell']) (by omega) (by unfold maxLen; omega) (by omega) (by simp; omega) (W.heap.size + 1) (by simp) ?_; intro gg cap w3 hown3 hgrow3 hloc3 hlt3; obtain ⟨w4, hrun4, hown4, hgrow4⟩ := HBK.out w3 (.slice (some ⟨gg, 0, none⟩) (zs.length + 1) cap) (zs ++ [x1]) ((World.grownBy_alloc _ _ _).trans hgrow3) (hoi.appended hown3 hwf1) (by simp; omega) (hloc3.imp (fun h => h.symm) (fun h => ⟨_, rfl, by rw [h]; simp⟩)))
            | (refine step_append_lies _ (by rfl) _ _ _ (by rfl) (Mt + 1) 3 i0 _ 1 8 Tryz.underlying23 hi hz0 hz1 hz2 rfl (by omega) v2 zs2.length (zs2.map (Value.int .i64)) (by rfl) hoi2.1 ⟨W.heap.size, 0, none⟩ 1 1 [.int .i64 x1] (by rfl) (by rfl) (World.news_of_block (cs := #[.int .i64 x1]) (t := 3) (fr := (0, 0)) (heap_alloc_new W _)) (by simp [Value.oneCell']) (by omega) (by unfold maxLen; omega) (by omega) (by simp; omega) (W.heap.size + 1) (by simp) ?_; intro gg cap w3 hown3 hgrow3 hloc3 hlt3; obtain ⟨w4, hrun4, hown4, hgrow4⟩ := HBK2.out w3 (.slice (some ⟨gg, 0, none⟩) (zs2.length + 1) cap) (zs2 ++ [x1]) hgrow3 (hoi2.appended hown3 hwf1) (by simp; omega) (hloc3.imp (fun h => h.symm) (fun h => ⟨_, rfl, by rw [h]; simp⟩))))
        · go_wp2
          go_roundw
          case rel =>
            refine ⟨k + 1, by omega, by go_num, ?_, (bTA.kept hgrow3 nT).kept hgrow4 m1, _, hown4, groups_step hlt HX.out HT.out (isMap_groups hGW) hoi HAT.out (hoi.appended hown3 hwf1)⟩
            exact (HBA.out.grown hgrow3 HMS.out (fun j e => by have := (hoi.1.lt j e).1; omega)).grown hgrow4 (Nat.le_trans HMS.out hgrow3.size) (fun j e => by cases e; exact Nat.le_refl _)
          case measure => simp [intOf]; omega
        · go_wp2
          go_roundw
          case rel =>
            refine ⟨k + 1, by omega, by go_num, ?_, (bTA.kept hgrow3 nT2).kept hgrow4 m1, _, hown4, groups_step hlt HX.out HT.out (isMap_groups hGW) hoi2 HAT2.out (hoi2.appended hown3 hwf1)⟩
            exact (HBA.out.grown hgrow3 HMS.out (fun j e => by have := (hoi2.1.lt j e).1; omega)).grown hgrow4 (Nat.le_trans HMS.out hgrow3.size) (fun j e => by cases e; exact Nat.le_refl _)
          case measure => simp [intOf]; omega
      · obtain rfl : k = l.length := by omega
        rw [List.take_length] at hT
        have bNr : Boxed wr w.heap.size 3 (.int .i64 n) := (hBr.block _ hsz1).trans bN2
        have hBw := hB2.trans (hBr.mono (Nat.le_of_lt hsz1))
        have HMM2 := HMM.out
        clear hg1 bT0 bN2 hl2 hB2 hl hlr
        obtain ⟨N, rfl⟩ : ∃ N : Nat, n = N := ⟨n.toNat, by omega⟩
        have hN : N ≤ 64 := by omega
        have hvN := HV.out
        rw [Int.toNat_natCast] at hvN
        have HVN := Lib.hid hvN
        have hinN := hin.out
        rw [Int.toNat_natCast] at hinN
        have HIN := Lib.hid hinN
        clear hvN hinN
        go_upto_region 12 with (fail)
        obtain ⟨F, hF⟩ : ∃ F : Value, F = .func (.func 94) #[] #[.pointer (some ⟨wr.heap.size + 1, 0, none⟩), .pointer (some ⟨Mt + 1, 0, none⟩), .pointer (some ⟨wr.heap.size + 1 + 1, 0, none⟩)] := ⟨_, rfl⟩
        have ha1 := World.grownBy_alloc wr (.map #[] 0) none
        have ha2 := World.grownBy_alloc (wr.alloc (.map #[] 0)) (.cells #[.map (some wr.heap.size)] 105) none
        have ha3 := World.grownBy_alloc ((wr.alloc (.map #[] 0)).alloc (.cells #[.map (some wr.heap.size)] 105)) (.cells #[F] 114) none
        have hown0 := ((World.ownsMap_made wr Tryz.prog 3 (plainElem (H := Unit) Tryz.prog 3)).kept ha2 (by simp)).kept ha3 (by simp)
        have bS0 := (Boxed.new (wr.alloc (.map #[] 0)) 105 (.map (some wr.heap.size))).kept ha3 (by simp)
        have bC0 := Boxed.new ((wr.alloc (.map #[] 0)).alloc (.cells #[.map (some wr.heap.size)] 105)) 114 F
        have bT5 := bTr.kept ((ha1.trans ha2).trans ha3) (by simp)
        have hG5 := groups_kept hG ((ha1.trans ha2).trans ha3) (fun j e => by cases e)
        have bN5 := bNr.kept ((ha1.trans ha2).trans ha3) (by simp)
        have hB5 := hBw.grown ((ha1.trans ha2).trans ha3) hBw.size (fun j e => by cases e)
        rw [World.size_alloc] at bS0
        rw [World.size_alloc, World.size_alloc] at bC0
        rw [← hF]
        obtain ⟨W5, hW5⟩ : ∃ W5, ((wr.alloc (.map #[] 0)).alloc (.cells #[.map (some wr.heap.size)] 105)).alloc (.cells #[F] 114) = W5 := ⟨_, rfl⟩
        rw [hW5] at hown0 bS0 bC0 bT5 hG5 bN5 hB5 ⊢
        have hMM : Mt + 2 ≤ wr.heap.size := by omega
        clear hW5 ha1 ha2 ha3 hG bTr bNr hBr
        generalize wr.heap.size = Ms at *
        have hE : Env (Ms + 1) (Mt + 1) (Ms + 1 + 1) Ms Mt (toOf l) W5 := ⟨bS0, bT5, by rw [← hF]; exact bC0, ⟨Mt + 1, l.length, G, hG5, by omega, hT⟩, by omega⟩
        have hS : StateIs W5 Ms 0 (fun _ => 0) := ⟨_, hown0, fun a => rfl⟩
        have hcn := bN5.cell
        have hmwp : ∃ o : Obj, W5.heap[Ms]? = some o ∧ o.isCells = false := by obtain ⟨es, clock, hb, _⟩ := hown0; exact ⟨_, hb, rfl⟩
        have hMW := Lib.hid hmwp
        have HF := Lib.hid hF
        have hsB5 := hB5.size
        have hwMs : w.heap.size ≤ Ms := by omega
        have HSS := Lib.hid hS
        clear hown0 bS0 bC0 bT5 hG5 bN5 hF hmwp
        go_wp2
        go_loopw [44] (fun i wx => ∃ k : Nat, k ≤ N ∧ i = .int .i64 k ∧ (runL (dfs (toOf l) (N + 1)) (fun _ => 0) (((List.range N).map fun i : Nat => (i : Int)).take k)).1 = true ∧ W5.grownBy wx (some Ms) ∧
            ∃ n', StateIs wx Ms n' (runL (dfs (toOf l) (N + 1)) (fun _ => 0) (((List.range N).map fun i : Nat => (i : Int)).take k)).2 ∧ n' + 2 * whites N (runL (dfs (toOf l) (N + 1)) (fun _ => 0) (((List.range N).map fun i : Nat => (i : Int)).take k)).2 ≤ 2 * whites N (fun _ => 0)) (fun i _ => N - (intOf i).toNat)
        case atStart => exact ⟨0, Nat.zero_le _, rfl, rfl, ⟨rfl, rfl, rfl, Nat.le_refl _, fun _ _ _ => rfl⟩, 0, HSS.out, by show 0 + 2 * whites N (fun _ => 0) ≤ _; omega⟩
        case round =>
          obtain ⟨k, hk, rfl, hrun, hgr, n', hSr, hnr⟩ := hrel
          have hEr := hE.kept HSS.out hgr
          have hw0 := whites_le N (fun _ => 0)
          have hwk := whites_le N (runL (dfs (toOf l) (N + 1)) (fun _ => 0) (((List.range N).map fun i : Nat => (i : Int)).take k)).2
          have hck : Col (runL (dfs (toOf l) (N + 1)) (fun _ => 0) (((List.range N).map fun i : Nat => (i : Int)).take k)).2 := (runL_keeps (fun S b => dfs_keeps (toOf l) (N + 1) S b) (((List.range N).map fun i : Nat => (i : Int)).take k) (fun _ => 0) (fun _ => ⟨Int.le_refl _, by show (0 : Int) ≤ 2; omega⟩)).1
          have HRUN := Lib.hid hrun
          have HSR := Lib.hid hSr
          have HCK := Lib.hid hck
          have hlenP : ((List.range N).map fun i : Nat => (i : Int)).length = N := by simp
          have HLP := Lib.hid hlenP
          have hBx : Below w.heap.size w wr := hB5.grown hgr hsB5 (fun j e => by cases e; exact hwMs)
          have HBX := Lib.hid hBx
          clear hrun hck hlenP hBx
          by_cases hkN : k < N
          · have hbk : ((List.range N).map fun i : Nat => (i : Int))[k]?.getD 0 = (k : Int) := by simp [hkN]
            have HBK := Lib.hid hbk
            have hbc := hEr.bc.cell
            have cI := clean_any (Ms + 1) (Mt + 1) (Ms + 1 + 1) Ms Mt l N hN (fun p hp => (HIN.out p hp).2) (by omega) (N + 1) _ (k : Int) n' wr hEr HSR.out HCK.out (by omega) (by omega) (by omega) (by omega)
            have CI := Lib.hid cI
            clear hbk cI hSr
            go_wp2_with (go_at_call 94; refine CI.out.mono ?_; rintro e w6 ⟨rfl, hg6, n6, hS6, hn6⟩; generalize hr : (dfs (toOf l) (N + 1) (runL (dfs (toOf l) (N + 1)) (fun _ => 0) (((List.range N).map fun i : Nat => (i : Int)).take k)).2 (k : Int)).1 = rb; have HR := Lib.hid hr; clear hr; cases rb)
            · go_ret
              have hno := runL_no (by rw [HLP.out]; exact hkN) HBK.out HRUN.out HR.out
              exact ⟨ret_bool (by rw [HVN.out]; unfold dfsAll; rw [hno]), HBX.out.grown hg6 HBX.out.size (fun j e => by cases e; exact hwMs)⟩
            · have hyes := runL_yes (by rw [HLP.out]; exact hkN) HBK.out HRUN.out HR.out
              go_roundw
              case rel => exact ⟨k + 1, by omega, by go_num, by rw [hyes], hgr.trans hg6, n6, by rw [hyes]; exact hS6, by rw [hyes]; show n6 + 2 * whites N (dfs (toOf l) (N + 1) (runL (dfs (toOf l) (N + 1)) (fun _ => 0) (((List.range N).map fun i : Nat => (i : Int)).take k)).2 (k : Int)).2 ≤ _; omega⟩
              case measure => simp [intOf]; omega
          · obtain rfl : k = N := by omega
            go_wp2
            go_ret
            have hrun := HRUN.out
            rw [List.take_of_length_le (by rw [HLP.out]; omega)] at hrun
            exact ⟨ret_bool (by rw [HVN.out]; exact hrun), HBX.out⟩
  · go_wp2
    go_ret
    have hv : acyclicV n l = false := by unfold acyclicV; rw [if_pos (.inr (.inr HANY.out))]
    exact ⟨ret_bool hv, hB0.trans (hb1.mono hB0.size)⟩
end Go.Proofs.YtacnbdnmkmpldaaGreat
