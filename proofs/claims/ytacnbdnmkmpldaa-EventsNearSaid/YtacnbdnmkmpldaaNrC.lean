/- EventsNear: an execution copied. -/
import Derived.Test.YtacnbdnmkmpldaaNrM
import Derived.Test.YtacnbdnmkmpldaaEvC
import Derived.Deep.RegionHeld3
import Derived.Deep.RegionLaw
import Derived.Deep.DeepCutAuto
import Derived.Outline
import Derived.Lib.Hide
namespace Go.Proofs.Ytacnbdnmkmpldaa
open Go Go.Proofs Go.RowKit Q
set_option linter.unusedSimpArgs false
set_option linter.unusedVariables false

theorem infoE : (Try.prog.info? 44).map (fun i => (i.zero, i.size, i.bytes)) = some (some (.agg #[.int .i64 0, .int .i64 0, .int .u32 0, .int .u32 0, .int .u32 0, .bool false, .bool false, .int .i64 0, .int .i64 0, .bool false, .slice none 0 0, .slice none 0 0, .slice none 0 0]), 13, 128) := by kernel_rfl
theorem infoInt : (Try.prog.info? 3).map (fun i => (i.zero, i.size, i.bytes)) = some (some (.int .i64 0), 1, 8) := by kernel_rfl
theorem infoRow : (Try.prog.info? 23).map (fun i => (i.zero, i.size, i.bytes)) = some (some (.slice none 0 0), 1, 24) := by kernel_rfl

structure Tiny (x : Ex) : Prop where
  evs : x.evs.length ≤ 1000
  src : x.src.length ≤ 1000
  order : x.order.length ≤ 1000
  row : ∀ l ∈ x.order, l.length ≤ 1000

/-- What is handed back: an execution in rows of its own. -/
def Copied (x : Ex) (w0 w : World) (r : Ending) (w' : World) : Prop :=
  ∃ vE vF vO vs, r = .returned (.agg #[vE, vF, vO]) ∧ Cp w' (· < w0.heap.size) w.heap.size w'.heap.size 44 3 23 x vE vF vO vs ∧ Below w.heap.size w w'

set_option maxRecDepth 100000 in
set_option maxHeartbeats 4000000 in
theorem copied_any (x : Ex) (ht : Tiny x) (Ae Af Ao : Option Addr) (ce cf co : Nat) (w0 w : World) (hw0 : Below w0.heap.size w0 w) (he : Evs w0 Ae x.evs) (hf : Ints w0 Af x.src) (ho : Q.Rows w0 Ao x.order) :
    Calls Try.prog 37 #[.agg #[.slice Ae x.evs.length ce, .slice Af x.src.length cf, .slice Ao x.order.length co]] w (Copied x w0 w) := by
  obtain ⟨iE, hiE, hzE0, hzE1, hzE2⟩ := info_parts infoE
  obtain ⟨iI, hiI, hzI0, hzI1, hzI2⟩ := info_parts infoInt
  obtain ⟨iR, hiR, hzR0, hzR1, hzR2⟩ := info_parts infoRow
  obtain ⟨xs, hxl, hsrcE, hone, hin⟩ := evs_cells he
  have hsrcF := ints_src hf
  have hw0s := hw0.size
  go_enter Try.func37, Try.ntmps37
  go_upto_region 1 with (fail)
  obtain ⟨W00, s00, hW00, hbx, hsz, b0, b1, b2⟩ := box3 w 26 (.slice Ae x.evs.length ce) (.slice Af x.src.length cf) (.slice Ao x.order.length co)
  have hs00 : s00.val.heap.size = w.heap.size + 1 := by rw [← hW00]; simp
  rw [hW00]
  have hal : Below W00.heap.size W00 (s00.val.alloc (.cells #[.slice none 0 0, .slice none 0 0, .slice none 0 0] 26)) := s00.below.alloc s00.below.size _
  have hres : (s00.val.alloc (.cells #[.slice none 0 0, .slice none 0 0, .slice none 0 0] 26)).heap[w.heap.size + 1]? = some (.cells #[.slice none 0 0, .slice none 0 0, .slice none 0 0] 26 (0, 0)) := by rw [← hs00]; exact heap_alloc_new _ _
  have hsz0 : (s00.val.alloc (.cells #[.slice none 0 0, .slice none 0 0, .slice none 0 0] 26)).heap.size = w.heap.size + 2 := by simp [hs00]
  obtain ⟨W0, hW0⟩ : ∃ W0, s00.val.alloc (.cells #[.slice none 0 0, .slice none 0 0, .slice none 0 0] 26) = W0 := ⟨_, rfl⟩
  rw [hW0] at hal hres hsz0 ⊢
  have hB0 : Below w.heap.size w W0 := hbx.trans (hal.mono hbx.size)
  have hB00 : Below w0.heap.size w0 W0 := hw0.trans (hB0.mono hw0.size)
  have k0 : ∀ s : Fut W0, s.val.cell? ⟨w.heap.size, 0, none⟩ = some (.slice Ae x.evs.length ce) := fun s => b0 ⟨s.val, hal.trans (s.below.mono hal.size)⟩
  have k1 : ∀ s : Fut W0, s.val.cell? ⟨w.heap.size, 1, none⟩ = some (.slice Af x.src.length cf) := fun s => b1 ⟨s.val, hal.trans (s.below.mono hal.size)⟩
  have k2 : ∀ s : Fut W0, s.val.cell? ⟨w.heap.size, 2, none⟩ = some (.slice Ao x.order.length co) := fun s => b2 ⟨s.val, hal.trans (s.below.mono hal.size)⟩
  have hSE : ∀ W', Below W0.heap.size W0 W' → SrcAt W' Ae xs := fun W' h => hsrcE.fut ⟨W', hB00.trans (h.mono hB00.size)⟩
  have hSF : ∀ W', Below W0.heap.size W0 W' → SrcAt W' Af (x.src.map (Value.int .i64)) := fun W' h => hsrcF.fut ⟨W', hB00.trans (h.mono hB00.size)⟩
  have hRo : ∀ W', Below W0.heap.size W0 W' → Q.Rows W' Ao x.order := fun W' h => ho.fut ⟨W', hB00.trans (h.mono hB00.size)⟩
  have hone2 := ints_one x.src
  have ht1 := ht.evs
  have ht2 := ht.src
  have ht3 := ht.order
  have HSZ := Lib.hid hsz0
  have HRES := Lib.hid hres
  have HSE := Lib.hid hSE
  have HSF := Lib.hid hSF
  have HRO := Lib.hid hRo
  have HIN := Lib.hid hin
  have HB0 := Lib.hid hB0
  have HB00 := Lib.hid hB00
  have hw0z := hB00.size
  have hwz := hB0.size
  have hbb : Below W0.heap.size W0 W0.drew := (Below.refl _ _).drew
  clear hW00 hW0 hs00 hal b0 b1 b2 hbx hsz s00 hsrcE hsrcF hin he hf ho hSE hSF hRo hB0 hB00 hw0 hsz0 hres
  have NCX := Lib.hid (show ∀ b, W0.heap.size ≤ b → ¬ (fun b => b < w0.heap.size) b from fun b h1 h2 => by have h2 : b < w0.heap.size := h2; omega)
  go_cut [3] (fun v3 wf => ∃ (A1 : Option Addr) (c1 : Nat) (A2 : Option Addr) (c2 b3 : Nat), v3 = .pointer (some ⟨b3, 0, none⟩) ∧ W0.heap.size ≤ b3 ∧ Box3 wf b3 26 (.slice A1 x.evs.length c1) (.slice A2 x.src.length c2) (.slice none 0 0) ∧ Below W0.heap.size W0 wf ∧ Cp wf (· < w0.heap.size) W0.heap.size wf.heap.size 44 3 23 { x with order := [] } (.slice A1 x.evs.length c1) (.slice A2 x.src.length c2) (.slice none 0 0) [])
  case first =>
    go_region_held3 (fun w' => w'.cell? ⟨w.heap.size, 0, none⟩ = some (.slice Ae x.evs.length ce) ∧ w'.cell? ⟨w.heap.size, 1, none⟩ = some (.slice Af x.src.length cf) ∧ Below W0.heap.size W0 w')
      (first
        | (exact ⟨k0 ⟨_, hbb⟩, k1 ⟨_, hbb⟩, hbb⟩)
        | (exact ⟨k0 ⟨_, hbb.alloc hbb.size _⟩, k1 ⟨_, hbb.alloc hbb.size _⟩, hbb.alloc hbb.size _⟩)
        | (have hs := ((hbb.setCell (p := ⟨_, 0, none⟩) qb (.slice A1 x.evs.length c1)).setCell (p := ⟨_, 1, none⟩) qb (.slice A2 x.src.length c2)).setCell (p := ⟨_, 2, none⟩) qb (.slice none 0 0); exact ⟨k0 ⟨_, hs⟩, k1 ⟨_, hs⟩, hs⟩))
      (first
        | (have hH := (‹_ ∧ _ ∧ Below W0.heap.size W0 _›).2.2; refine step_append_src _ (by rfl) _ _ _ (by rfl) W0.heap.size 44 iE _ 13 128 Try.underlying22 hiE hzE0 hzE1 hzE2 rfl (by omega) (.slice none 0 0) 0 [] (by rfl) (World.ownsRow_nil _ _ _ _) Ae x.evs.length ce xs (by rfl) hxl (HSE.out _ hH) hone (by unfold maxLen; omega) (by omega) hH.size ?_; intro vE w1 hownE hgE hatE; obtain ⟨A1, c1, rfl⟩ := own_slice hownE; rw [Nat.zero_add] at hownE ⊢; rw [List.nil_append] at hownE; have hbb := hH.grown hgE hH.size (fun j e => by cases e)
           (try (have qE : Box3 w1 W0.heap.size 26 (.slice none 0 0) (.slice none 0 0) (.slice none 0 0) := (Box3.new W0.drew 26 (.slice none 0 0) (.slice none 0 0) (.slice none 0 0)).kept hgE (by simp [Value.ownBlock]))))
        | (have hH := (‹_ ∧ _ ∧ Below W0.heap.size W0 _›).2.2; refine step_append_src _ (by rfl) _ _ _ (by rfl) W0.heap.size 3 iI _ 1 8 Try.underlying23 hiI hzI0 hzI1 hzI2 rfl (by omega) (.slice none 0 0) 0 [] (by rfl) (World.ownsRow_nil _ _ _ _) Af x.src.length cf (x.src.map (Value.int .i64)) (by rfl) (by simp) (HSF.out _ hH) hone2 (by unfold maxLen; omega) (by omega) hH.size ?_; intro vF w2 hownF hgF hatF; obtain ⟨A2, c2, rfl⟩ := own_slice hownF; rw [Nat.zero_add] at hownF ⊢; rw [List.nil_append] at hownF; have hbz := hbb; have hbb := hH.grown hgF hH.size (fun j e => by cases e); have HE2 : Hid (w2.ownsRow W0.heap.size 44 13 (.slice A1 x.evs.length c1) x.evs.length xs) := Lib.hid (by first | exact hownE.kept hgF (by cases A1 <;> simp [Value.ownBlock]) | exact (hownE.alloc _).kept hgF (by cases A1 <;> simp [Value.ownBlock])); have HF2 := Lib.hid hownF; clear hownE hownF hatE hatF
           (first
             | (have qF := qE.kept hgF (by simp [Value.ownBlock]); have q0 := qF.cell0; have q1 := qF.cell1; have q2 := qF.cell2; have f0 := qF.frozen 0; have f1 := qF.frozen 1; have f2 := qF.frozen 2; have qb : W0.heap.size ≤ W0.heap.size := Nat.le_refl _; have QF := Lib.hid qF; clear qE qF)
             | (have qF := (Box3.new w1 26 (.slice none 0 0) (.slice none 0 0) (.slice none 0 0)).kept hgF (by simp [Value.ownBlock]); have q0 := qF.cell0; have q1 := qF.cell1; have q2 := qF.cell2; have f0 := qF.frozen 0; have f1 := qF.frozen 1; have f2 := qF.frozen 2; have qb : W0.heap.size ≤ w1.heap.size := hbz.size; have QF := Lib.hid qF; clear qF)
             | skip)))
    all_goals
      have hin2 : ∀ j, j < x.evs.length → EvIn w2 (· < w0.heap.size) (xs.drop (j * 13)) (x.evs[j]?.getD zev) := fun j hj => (HIN.out j hj).keep fun b o u hb hc => (((HB00.out.trans (hbb.mono HB00.out.size)).cell (p := ⟨b, o, none⟩) hb).trans hc)
      have cp2 := Cp.start (tS := 23) ⟨by omega, by omega, by omega, fun l hl => by have := ht.row l hl; omega⟩ (fun b h => Nat.lt_of_lt_of_le h hw0z) HE2.out hin2 HF2.out
      clear hin2
      go_wp2_with fail
      go_meet
      first
        | exact ⟨A1, c1, A2, c2, _, rfl, hbb.size, Box3.new _ _ _ _ _, hbb.alloc hbb.size _, (cp2.alloc _).up (by simp) (Nat.le_refl _) (fun b h => Nat.lt_of_lt_of_le h hw0z)⟩
        | exact ⟨A1, c1, A2, c2, _, rfl, qb, ((QF.out.set0 _).set1 _).set2 _, ((hbb.setCell (p := ⟨_, 0, none⟩) qb _).setCell (p := ⟨_, 1, none⟩) qb _).setCell (p := ⟨_, 2, none⟩) qb _,
              (((cp2.farT (NCX.out _ qb) QF.out (by decide) (by decide) (by decide) 0 _).farT (NCX.out _ qb) (QF.out.set0 _) (by decide) (by decide) (by decide) 1 _).farT (NCX.out _ qb) ((QF.out.set0 _).set1 _) (by decide) (by decide) (by decide) 2 _).up (by simp [World.setCell]) (Nat.le_refl _) (fun b h => Nat.lt_of_lt_of_le h hw0z)⟩
  case rest =>
    obtain ⟨A1, c1, A2, c2, b3, rfl, hge, qbox, hbw, hcp⟩ := hcut
    have HCP := Lib.hid hcp
    have HQB := Lib.hid qbox
    have HBW := Lib.hid hbw
    clear hcp qbox hbw hbb
    go_wp2
    go_loopw [4] (fun i wr => ∃ (k : Nat) (vO : Value) (vs : List Value), k ≤ x.order.length ∧ i = .int .i64 k ∧ Cp wr (· < w0.heap.size) W0.heap.size wr.heap.size 44 3 23 { x with order := x.order.take k } (.slice A1 x.evs.length c1) (.slice A2 x.src.length c2) vO vs ∧
        Box3 wr b3 26 (.slice A1 x.evs.length c1) (.slice A2 x.src.length c2) vO ∧ Below W0.heap.size W0 wr) (fun i _ => x.order.length - (intOf i).toNat)
    case atStart => exact ⟨0, _, _, Nat.zero_le _, rfl, by simpa using HCP.out, HQB.out, HBW.out⟩
    case round =>
      obtain ⟨k, vO, vs, hk, rfl, hcp, qbox, hbw⟩ := hrel
      have u2 : wr.cell? ⟨w.heap.size, 2, none⟩ = some (.slice Ao x.order.length co) := k2 ⟨wr, hbw⟩
      by_cases hlt : k < x.order.length
      case neg =>
        obtain rfl : k = x.order.length := by omega
        rw [List.take_length] at hcp
        have hrw := (hbw.block (w.heap.size + 1) (by rw [HSZ.out]; omega)).trans HRES.out
        have g0 := qbox.cell0
        have g1 := qbox.cell1
        have g2 := qbox.cell2
        have hrb : Box3 wr (w.heap.size + 1) 26 (.slice none 0 0) (.slice none 0 0) (.slice none 0 0) := hrw
        have r0 := hrb.cell0
        have r1 := hrb.cell1
        have r2 := hrb.cell2
        have s0 := hrb.frozen 0
        have s1 := hrb.frozen 1
        have s2 := hrb.frozen 2
        have HCP := Lib.hid hcp
        have HRB := Lib.hid hrb
        have hO := hcp.O
        obtain ⟨AO, cO, rfl⟩ := own_slice hO
        clear hcp hrw hrb qbox hO
        go_wp2
        have hz := ((HRB.out.set0 (.slice A1 x.evs.length c1)).set1 (.slice A2 x.src.length c2)).set2 (.slice AO x.order.length cO)
        have hcn : ¬ (fun b => b < w0.heap.size) (w.heap.size + 1) := fun h => by have h : w.heap.size + 1 < w0.heap.size := h; omega
        have hcp := (((HCP.out.farT hcn HRB.out (by decide) (by decide) (by decide) 0 (.slice A1 x.evs.length c1)).farT hcn (HRB.out.set0 _) (by decide) (by decide) (by decide) 1 (.slice A2 x.src.length c2)).farT hcn ((HRB.out.set0 _).set1 _) (by decide) (by decide) (by decide) 2 (.slice AO x.order.length cO)).up (M' := _) (by simp [World.setCell]) (Nat.le_refl _) (fun b h => Nat.lt_of_lt_of_le h hw0z)
        have hB : Below w.heap.size w wr := HB0.out.trans (hbw.mono HB0.out.size)
        have hB3 := ((hB.setCell (p := ⟨w.heap.size + 1, 0, none⟩) (by show w.heap.size ≤ w.heap.size + 1; omega) (.slice A1 x.evs.length c1)).setCell (p := ⟨w.heap.size + 1, 1, none⟩) (by show w.heap.size ≤ w.heap.size + 1; omega) (.slice A2 x.src.length c2)).setCell (p := ⟨w.heap.size + 1, 2, none⟩) (by show w.heap.size ≤ w.heap.size + 1; omega) (.slice AO x.order.length cO)
        obtain ⟨Wf, hWf⟩ : ∃ Wf, ((wr.setCell ⟨w.heap.size + 1, 0, none⟩ (.slice A1 x.evs.length c1)).setCell ⟨w.heap.size + 1, 1, none⟩ (.slice A2 x.src.length c2)).setCell ⟨w.heap.size + 1, 2, none⟩ (.slice AO x.order.length cO) = Wf := ⟨_, rfl⟩
        rw [hWf] at hz hcp hB3 ⊢
        have t0 := hz.cell0
        have t1 := hz.cell1
        have t2 := hz.cell2
        exact bodyPost_ret (v := .agg #[.slice A1 x.evs.length c1, .slice A2 x.src.length c2, .slice AO x.order.length cO]) (by simp [results, Try.results37, go_sem, t0, t1, t2]) rfl ⟨_, _, _, _, rfl, hcp.base hwz (fun g h => Nat.lt_of_lt_of_le h hw0s), hB3⟩
      obtain ⟨bo, off, rfl, hrows⟩ := (HRO.out wr hbw).2 (by omega)
      obtain ⟨B, c, hrow, hints⟩ := hrows k hlt
      obtain ⟨l, hl⟩ : ∃ l, x.order[k]?.getD [] = l := ⟨_, rfl⟩
      rw [hl] at hrow hints
      have hlm : l ∈ x.order := by rw [← hl, List.getElem?_eq_getElem hlt]; exact List.getElem_mem hlt
      have hll := ht.row l hlm
      have hO := hcp.O
      obtain ⟨AO, cO, rfl⟩ := own_slice hO
      have hlen : (x.order.take k).length = k := by simp; omega
      rw [hlen] at hO
      have g2 := qbox.cell2
      have gf := qbox.frozen 2
      have HCP := Lib.hid hcp
      have HQB := Lib.hid qbox
      have HBW := Lib.hid hbw
      have HL := Lib.hid hl
      have HINT := Lib.hid hints
      have HO := Lib.hid hO
      have HLEN := Lib.hid hlen
      have hnb := own_ne_box hO qbox (by decide)
      have HNB := Lib.hid hnb
      have HQB2 : Hid (Box3 wr.drew b3 26 (.slice A1 x.evs.length c1) (.slice A2 x.src.length c2) (.slice AO k cO)) := Lib.hid (by have := HQB.out; rw [HLEN.out] at this; exact this)
      have hbsz := hbw.size
      clear hnb
      clear hcp qbox hl hints hrows hO hlm hlen
      have b32 : wr.drew.cell? ⟨b3, 2, none⟩ = some (.slice AO k cO) := by rw [HLEN.out] at g2; exact g2
      go_upto_region 5 with (fail)
      go_region_law (first
        | (refine step_append_src _ (by rfl) _ _ _ (by rfl) W0.heap.size 3 iI _ 1 8 Try.underlying23 hiI hzI0 hzI1 hzI2 rfl (by omega) (.slice none 0 0) 0 [] (by rfl) (World.ownsRow_nil _ _ _ _) B l.length c (l.map (Value.int .i64)) (by rfl) (by simp) (ints_src (HINT.out.below (Below.refl _ _).drew)) (ints_one l) (by unfold maxLen; omega) (by omega) hbw.size ?_; intro v w1 hown1 hg1 hat1; rw [Nat.zero_add] at hown1; rw [List.nil_append] at hown1; obtain ⟨A3, c3, rfl⟩ := own_slice hown1; have hz1 : wr.heap.size ≤ w1.heap.size := hg1.size; have b32' : w1.cell? ⟨b3, 2, none⟩ = some (.slice AO k cO) := hg1.cell b32 (by simp [Value.ownBlock]); have b32'' : (w1.alloc (.cells #[.slice A3 l.length c3] 23)).cell? ⟨b3, 2, none⟩ = some (.slice AO k cO) := (World.grownBy_alloc w1 _ none).cell b32' (by simp))
        | (refine step_append_src _ (by rfl) _ _ _ (by rfl) W0.heap.size 23 iR _ 1 24 Try.underlying24 hiR hzR0 hzR1 hzR2 rfl (by omega) (.slice AO k cO) k vs (by rfl) (((HO.out.drew.kept hg1 (by cases AO <;> simp [Value.ownBlock])).alloc _)) (some ⟨w1.heap.size, 0, none⟩) 1 1 [.slice A3 l.length c3] (by rfl) (by rfl) (src_one w1 _ _) (by intro u hu; simp at hu; subst hu; rfl) (by unfold maxLen; omega) (by omega) (by simp; omega) ?_; intro vO' w3 hown3 hg3 hat3; obtain ⟨AO', cO', rfl⟩ := own_slice hown3; have q3 : Box3 w3 b3 26 (.slice A1 x.evs.length c1) (.slice A2 x.src.length c2) (.slice AO k cO) := ((HQB2.out.kept hg1 (by simp [Value.ownBlock])).alloc _).kept hg3 (fun e => HNB.out e.symm); have q32 := q3.cell2; have qf2 := q3.frozen 2))
      all_goals
        have hcp := HCP.out.drew
        simp only [HLEN.out] at hcp
        have hcp3 := hcp.push (by decide) (by decide) (fun b h => Nat.lt_of_lt_of_le h hw0z) (by omega) (by rw [HLEN.out]; omega) hown1 hg1 (hat1.imp (fun h => h.trans rfl) id) (by rw [HLEN.out]; exact hown3) hg3
        have hcp4 := (hcp3.farT (NCX.out _ hge) q3 (by decide) (by decide) (by decide) 2 (.slice AO' (k + 1) cO')).up (M' := (w3.setCell ⟨b3, 2, none⟩ (.slice AO' (k + 1) cO')).heap.size) (by simp [World.setCell]) (Nat.le_refl _) (fun b h => Nat.lt_of_lt_of_le h hw0z)
        have hb4 : Below W0.heap.size W0 (w3.setCell ⟨b3, 2, none⟩ (.slice AO' (k + 1) cO')) := ((((hbw.drew).grown hg1 hbw.size (fun j e => by cases e)).alloc (Nat.le_trans hbw.size hz1) _).grown hg3 (by simp; omega) (fun j e => (hcp.bO j e).1)).setCell (p := ⟨b3, 2, none⟩) hge _
        have hbx4 := q3.set2 (.slice AO' (k + 1) cO')
        have hord : x.order.take k ++ [l] = x.order.take (k + 1) := by
          rw [List.take_add_one, List.getElem?_eq_getElem hlt]
          have := HL.out
          rw [List.getElem?_eq_getElem hlt] at this
          rw [← (show x.order[k] = l from this)]; rfl
        rw [hord] at hcp4
        have HCP4 := Lib.hid hcp4
        have HB4 := Lib.hid hb4
        have HBX4 := Lib.hid hbx4
        clear hcp hcp3 hcp4 hb4 hbx4 hord
        go_wp2
        go_roundw
        case rel => exact ⟨k + 1, _, _, by omega, by go_num, HCP4.out, HBX4.out, HB4.out⟩
        case measure => simp [intOf]; omega
end Go.Proofs.Ytacnbdnmkmpldaa
