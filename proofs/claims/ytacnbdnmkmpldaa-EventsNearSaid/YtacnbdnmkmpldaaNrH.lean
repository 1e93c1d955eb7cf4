/- EventsNear: an execution with one part otherwise. -/
import Derived.Test.YtacnbdnmkmpldaaNrC
import Derived.Deep.CutBlock
import Derived.RegionTactic
namespace Go.Proofs.Ytacnbdnmkmpldaa
open Go Go.Proofs Go.RowKit Q
set_option linter.unusedSimpArgs false
set_option linter.unusedVariables false

/-- What is handed back: some execution. -/
def Changed (w : World) (r : Ending) (w' : World) : Prop :=
  ∃ (x' : Ex) (Ae : Option Addr) (ce : Nat) (Af : Option Addr) (cf : Nat) (Ao : Option Addr) (co : Nat), r = .returned (.agg #[.slice Ae x'.evs.length ce, .slice Af x'.src.length cf, .slice Ao x'.order.length co]) ∧ ExAt w' Ae Af Ao x' ∧ ExOk x' ∧ Below w.heap.size w w'

theorem small_i64 {n : Int} (h : -100 ≤ n ∧ n ≤ 100) : i64R n := by unfold i64R; omega
theorem u32_wrap (n : Int) : u32R (IntKind.u32.wrap n) := by
  rw [IntKind.wrap_u32]; unfold u32R; omega

theorem changed_end {w W : World} {C : Nat → Prop} {n0 M b : Nat} {tE tI tS tX : TypeId} {x : Ex} {vE vF vO : Value} {vs : List Value} (hcp : Cp W C n0 M tE tI tS x vE vF vO vs) (hr : Box3 W b tX (.slice none 0 0) (.slice none 0 0) (.slice none 0 0)) (hbw : Below w.heap.size w W) (hok : ExOk x)
    (hb : w.heap.size ≤ b) (hC : ¬ C b) (hf : b < n0 ∨ M ≤ b) :
    ∃ Wf, ((W.setCell ⟨b, 0, none⟩ vE).setCell ⟨b, 1, none⟩ vF).setCell ⟨b, 2, none⟩ vO = Wf ∧ Wf.cell? ⟨b, 0, none⟩ = some vE ∧ Wf.cell? ⟨b, 1, none⟩ = some vF ∧ Wf.cell? ⟨b, 2, none⟩ = some vO ∧ Changed w (.returned (.agg #[vE, vF, vO])) Wf := by
  have hz := ((hr.set0 vE).set1 vF).set2 vO
  have hc := ((hcp.far hf hC 0 vE).far hf hC 1 vF).far hf hC 2 vO
  obtain ⟨Ae, ce, Af, cf, Ao, co, e1, e2, e3, hx⟩ := hc.exAt
  refine ⟨_, rfl, hz.cell0, hz.cell1, hz.cell2, x, Ae, ce, Af, cf, Ao, co, by rw [← e1, ← e2, ← e3], hx, hok, ?_⟩
  exact ((hbw.setCell (p := ⟨b, 0, none⟩) hb vE).setCell (p := ⟨b, 1, none⟩) hb vF).setCell (p := ⟨b, 2, none⟩) hb vO
theorem lexChg36 : Region.lexB .any (opsOf Try.f16 36) = true := by kernel_rfl
theorem set_ok {x : Ex} (h : ExOk x) {k i : Nat} {l : List Int} (hk : k < x.order.length) (hl : x.order[k]?.getD [] = l) {z : Int} (hz : i64R z) : ExOk { x with order := x.order.set k (l.set i z) } := by
  refine ⟨h.evs, h.src, fun m hm d hd => ?_⟩
  have hlm : l ∈ x.order := by rw [← hl, List.getElem?_eq_getElem hk]; exact List.getElem_mem hk
  rcases List.mem_or_eq_of_mem_set hm with hm | rfl
  · exact h.order m hm d hd
  · rcases List.mem_or_eq_of_mem_set hd with hd | rfl
    · exact h.order l hlm d hd
    · exact hz
theorem set_row {L : List (List Int)} {k : Nat} (hk : k < L.length) (m : List Int) : (L.set k m)[k]?.getD [] = m := by simp [hk]

set_option maxRecDepth 100000 in
set_option maxHeartbeats 4000000 in
theorem changed_any (x : Ex) (hok : ExOk x) (ht : Tiny x) (Ae Af Ao : Option Addr) (ce cf co : Nat) (i how by_ : Nat) (hi : i < x.evs.length) (hi10 : i < 10) (hhow : how < 15) (hby : by_ < 7) (w : World) (he : Evs w Ae x.evs) (hf : Ints w Af x.src) (ho : Q.Rows w Ao x.order) :
    Calls Try.prog 16 #[.agg #[.slice Ae x.evs.length ce, .slice Af x.src.length cf, .slice Ao x.order.length co], .int .i64 i, .int .i64 how, .int .i64 by_] w (Changed w) := by
  go_enter Try.func16, Try.ntmps16
  go_upto_region 1 with (fail)
  obtain ⟨W00, s00, hW00, hbx, hsz, b0, b1, b2⟩ := box3 w 26 (.slice Ae x.evs.length ce) (.slice Af x.src.length cf) (.slice Ao x.order.length co)
  have hs00 : s00.val.heap.size = w.heap.size + 1 := by rw [← hW00]; simp
  rw [hW00]
  have hal : Below W00.heap.size W00 (s00.val.alloc (.cells #[.slice none 0 0, .slice none 0 0, .slice none 0 0] 26)) := s00.below.alloc s00.below.size _
  have hres : Box3 (s00.val.alloc (.cells #[.slice none 0 0, .slice none 0 0, .slice none 0 0] 26)) (w.heap.size + 1) 26 (.slice none 0 0) (.slice none 0 0) (.slice none 0 0) := by rw [← hs00]; exact Box3.new _ _ _ _ _
  have hsz0 : (s00.val.alloc (.cells #[.slice none 0 0, .slice none 0 0, .slice none 0 0] 26)).heap.size = w.heap.size + 2 := by simp [hs00]
  obtain ⟨W0, hW0⟩ : ∃ W0, s00.val.alloc (.cells #[.slice none 0 0, .slice none 0 0, .slice none 0 0] 26) = W0 := ⟨_, rfl⟩
  rw [hW0] at hal hres hsz0 ⊢
  have hB0 : Below w.heap.size w W0 := hbx.trans (hal.mono hbx.size)
  have k0 : W0.cell? ⟨w.heap.size, 0, none⟩ = some (.slice Ae x.evs.length ce) := b0 ⟨W0, hal⟩
  have k1 : W0.cell? ⟨w.heap.size, 1, none⟩ = some (.slice Af x.src.length cf) := b1 ⟨W0, hal⟩
  have k2 : W0.cell? ⟨w.heap.size, 2, none⟩ = some (.slice Ao x.order.length co) := b2 ⟨W0, hal⟩
  have HC := Lib.hid (copied_any x ht Ae Af Ao ce cf co w W0 hB0 he hf ho)
  have HSZ := Lib.hid hsz0
  have HRES := Lib.hid hres
  have HB0 := Lib.hid hB0
  have hwz := hB0.size
  clear hW00 hW0 hs00 hal b0 b1 b2 hbx hsz s00 he hf ho hB0 hsz0 hres
  go_upto_region 2 with (go_at_call 37; refine HC.out.mono ?_; rintro e w1 ⟨vE, vF, vO, vs, rfl, hcp, hb1⟩; obtain ⟨xs, hE, hin⟩ := hcp.E; have hfE := own_form hE; obtain ⟨A2, c2, rfl⟩ := own_slice hcp.F; obtain ⟨A3, c3, rfl⟩ := own_slice hcp.O; rcases hfE with ⟨_, h0⟩ | ⟨gE, c1, rfl, _, _, _⟩; (exfalso; omega))
  have hie := hin i hi
  obtain ⟨e, hen⟩ : ∃ e, x.evs[i]?.getD zev = e := ⟨_, rfl⟩
  rw [hen] at hie
  have heok : EvOk e := by rw [← hen, List.getElem?_eq_getElem hi]; exact hok.evs _ (List.getElem_mem hi)
  obtain ⟨P1, n1, a10, i10⟩ := hie.cells.c10
  obtain ⟨P2, n2, a11, i11⟩ := hie.cells.c11
  obtain ⟨P3, n3, a12, i12⟩ := hie.cells.c12
  have hgl : ∀ r v, r < 13 → (xs.drop (i * 13))[r]? = some v → w1.cell? ⟨gE, i * 13 + r, none⟩ = some v := fun r v hr hv => by
    rw [own_cell hE (by omega) rfl, ← hv, List.getElem?_drop]
  have hal : w1.grownBy (w1.alloc (.cells #[.slice (some ⟨gE, 0, none⟩) x.evs.length c1, .slice A2 x.src.length c2, .slice A3 x.order.length c3] 26)) none := World.grownBy_alloc _ _ _
  have hY := Box3.new w1 26 (.slice (some ⟨gE, 0, none⟩) x.evs.length c1) (.slice A2 x.src.length c2) (.slice A3 x.order.length c3)
  have hcp1 := hcp.alloc (.cells #[.slice (some ⟨gE, 0, none⟩) x.evs.length c1, .slice A2 x.src.length c2, .slice A3 x.order.length c3] 26)
  have hbz := hb1.size
  have hge := (hcp.bE gE rfl).2
  have hsz1 : (w1.alloc (.cells #[.slice (some ⟨gE, 0, none⟩) x.evs.length c1, .slice A2 x.src.length c2, .slice A3 x.order.length c3] 26)).heap.size = w1.heap.size + 1 := by simp
  have hR1 := (HRES.out.below hb1 (by rw [HSZ.out]; omega)).alloc (.cells #[.slice (some ⟨gE, 0, none⟩) x.evs.length c1, .slice A2 x.src.length c2, .slice A3 x.order.length c3] 26)
  have hBl : Below W0.heap.size W0 (w1.alloc (.cells #[.slice (some ⟨gE, 0, none⟩) x.evs.length c1, .slice A2 x.src.length c2, .slice A3 x.order.length c3] 26)) := hb1.alloc hb1.size _
  have d0 := hal.cell (a := ⟨gE, i * 13, none⟩) (hgl 0 _ (by omega) hie.cells.c0) (fun e => by cases e)
  have d1 := hal.cell (hgl 1 _ (by omega) hie.cells.c1) (fun e => by cases e)
  have d2 := hal.cell (hgl 2 _ (by omega) hie.cells.c2) (fun e => by cases e)
  have d3 := hal.cell (hgl 3 _ (by omega) hie.cells.c3) (fun e => by cases e)
  have d4 := hal.cell (hgl 4 _ (by omega) hie.cells.c4) (fun e => by cases e)
  have d5 := hal.cell (hgl 5 _ (by omega) hie.cells.c5) (fun e => by cases e)
  have d6 := hal.cell (hgl 6 _ (by omega) hie.cells.c6) (fun e => by cases e)
  have d7 := hal.cell (hgl 7 _ (by omega) hie.cells.c7) (fun e => by cases e)
  have d8 := hal.cell (hgl 8 _ (by omega) hie.cells.c8) (fun e => by cases e)
  have d9 := hal.cell (hgl 9 _ (by omega) hie.cells.c9) (fun e => by cases e)
  have d10 := hal.cell (hgl 10 _ (by omega) a10) (fun e => by cases e)
  have d11 := hal.cell (hgl 11 _ (by omega) a11) (fun e => by cases e)
  have d12 := hal.cell (hgl 12 _ (by omega) a12) (fun e => by cases e)
  obtain ⟨W1, hW1⟩ : ∃ W1, w1.alloc (.cells #[.slice (some ⟨gE, 0, none⟩) x.evs.length c1, .slice A2 x.src.length c2, .slice A3 x.order.length c3] 26) = W1 := ⟨_, rfl⟩
  obtain ⟨bY, hbY⟩ : ∃ bY, w1.heap.size = bY := ⟨_, rfl⟩
  rw [hbY] at hY hsz1 hge hbz
  rw [hW1] at d0 d1 d2 d3 d4 d5 d6 d7 d8 d9 d10 d11 d12 hR1 hcp1 hY hsz1 hBl ⊢
  rw [hbY] at hcp1 ⊢
  have g0 := hY.cell0
  have hF1 := hcp.F
  have iA := hie.i10 _ _ _ a10
  have iD := hie.i11 _ _ _ a11
  have iK := hie.i12 _ _ _ a12
  have hk1 : ∀ b o u, (fun b => b < w.heap.size) b → w1.cell? ⟨b, o, none⟩ = some u → W1.cell? ⟨b, o, none⟩ = some u := fun b o u _ h => by rw [← hW1]; exact hal.cell h (fun e => by cases e)
  have hA := i10.keepC iA hk1
  have hD := i11.keepC iD hk1
  have hK := i12.keepC iK hk1
  have HCP := Lib.hid hcp1
  have HA := Lib.hid hA
  have HD := Lib.hid hD
  have HK := Lib.hid hK
  have HIA := Lib.hid iA
  have HID := Lib.hid iD
  have HIK := Lib.hid iK
  have g1y := hY.cell1
  have HY := Lib.hid hY
  have HR := Lib.hid hR1
  have HBL := Lib.hid hBl
  have HF1 := Lib.hid hF1
  have HEOK := Lib.hid heok
  have HOK := Lib.hid hok
  have HHE := Lib.hid hen
  clear hcp hcp1 hE hin hie hen heok hok a10 a11 a12 i10 i11 i12 hgl hal hF1 iA iD iK hk1 hA hD hK hR1 hBl hY hW1 hb1 HC k0 k1 k2 HRES
  go_upto_block 0 with (fail)
  go_cut [] (fun wx => ∃ (x1 : Ex) (C : Nat → Prop) (e1 : Ev) (R1 : Option Addr) (m1 : Nat) (R2 : Option Addr) (m2 : Nat) (R3 : Option Addr) (m3 : Nat), Cp wx C W0.heap.size bY 44 3 23 x1 (.slice (some ⟨gE, 0, none⟩) x.evs.length c1) (.slice A2 x.src.length c2) (.slice A3 x.order.length c3) vs ∧ x1.evs = x.evs ∧ x1.src.length = x.src.length ∧ x1.order = x.order ∧ ExOk x1 ∧ EvOk e1 ∧
      EvIn wx C [.int .i64 e1.hart, .int .i64 e1.kind, .int .u32 e1.addr, .int .u32 e1.value, .int .u32 e1.readv, .bool e1.aq, .bool e1.rl, .int .i64 e1.pred, .int .i64 e1.succ, .bool e1.resv, .slice R1 e1.addrs.length m1, .slice R2 e1.datas.length m2, .slice R3 e1.ctrls.length m3] e1 ∧ wx.heap[bY + 1]? = some (.cells #[.int .i64 e1.hart, .int .i64 e1.kind, .int .u32 e1.addr, .int .u32 e1.value, .int .u32 e1.readv, .bool e1.aq, .bool e1.rl, .int .i64 e1.pred, .int .i64 e1.succ, .bool e1.resv, .slice R1 e1.addrs.length m1, .slice R2 e1.datas.length m2, .slice R3 e1.ctrls.length m3] 44 (0, 0)) ∧ Box3 wx bY 26 (.slice (some ⟨gE, 0, none⟩) x.evs.length c1) (.slice A2 x.src.length c2) (.slice A3 x.order.length c3) ∧
      Box3 wx (w.heap.size + 1) 26 (.slice none 0 0) (.slice none 0 0) (.slice none 0 0) ∧ Below w.heap.size w wx ∧ ¬ C (w.heap.size + 1))
  case first =>
    have hnC : ¬ (fun b => b < w.heap.size) (w.heap.size + 1) := fun h => by have h : w.heap.size + 1 < w.heap.size := h; omega
    have hal2 : ∀ cs : Array Value, Below W1.heap.size W1 (W1.alloc (.cells cs 44)) := fun cs => (Below.refl _ _).alloc (Nat.le_refl _) _
    have HA2 : ∀ cs : Array Value, Ints (W1.alloc (.cells cs 44)) P1 e.addrs := fun cs => HA.out.below (hal2 cs)
    have HD2 : ∀ cs : Array Value, Ints (W1.alloc (.cells cs 44)) P2 e.datas := fun cs => HD.out.below (hal2 cs)
    have HK2 : ∀ cs : Array Value, Ints (W1.alloc (.cells cs 44)) P3 e.ctrls := fun cs => HK.out.below (hal2 cs)
    have HNB : ∀ cs : Array Value, (W1.alloc (.cells cs 44)).heap[bY + 1]? = some (.cells cs 44 (0, 0)) := fun cs => by rw [← hsz1]; exact heap_alloc_new W1 _
    have HBW : ∀ cs : Array Value, Below w.heap.size w (W1.alloc (.cells cs 44)) := fun cs => (HB0.out.trans (HBL.out.mono HB0.out.size)).alloc (Nat.le_trans HB0.out.size HBL.out.size) _
    have HNB := Lib.hid HNB
    have HBW := Lib.hid HBW
    have HA2 := Lib.hid HA2
    have HD2 := Lib.hid HD2
    have HK2 := Lib.hid HK2
    have HNC := Lib.hid hnC
    clear hal2 hnC
    have HNI := Lib.hid (show ∀ cs cs2 : Array Value, ((W1.alloc (.cells cs 44)).alloc (.cells cs2 3)).heap[bY + 1 + 1]? = some (.cells cs2 3 (0, 0)) from fun cs cs2 => by
      have hz : (W1.alloc (.cells cs 44)).heap.size = bY + 1 + 1 := by simp [hsz1]
      rw [← hz]; exact heap_alloc_new _ _)
    have HNO := Lib.hid (show ∀ cs cs2 : Array Value, ((W1.alloc (.cells cs 44)).alloc (.cells cs2 3)).heap[bY + 1]? = some (.cells cs 44 (0, 0)) from fun cs cs2 => (Below.heap_alloc _ _ _ (by simp [hsz1])).trans (HNB.out cs))
    have HCC := Lib.hid (show ∀ b, (b < w.heap.size ∨ b = bY + 1 + 1) → b < W0.heap.size ∨ bY ≤ b from fun b h => by rcases h with h | h <;> omega)
    have HNC2 := Lib.hid (show ¬ (w.heap.size + 1 < w.heap.size ∨ w.heap.size + 1 = bY + 1 + 1) from fun h => by have := HSZ.out; omega)
    have h15 : how = 0 ∨ how = 1 ∨ how = 2 ∨ how = 3 ∨ how = 4 ∨ how = 5 ∨ how = 6 ∨ how = 7 ∨ how = 8 ∨ how = 14 ∨ how = 9 ∨ how = 10 ∨ how = 11 ∨ how = 12 ∨ how = 13 := by omega
    rcases h15 with rfl | rfl | rfl | rfl | rfl | rfl | rfl | rfl | rfl | rfl | rfl | rfl | rfl | rfl | rfl
    · go_wp2
      go_meet
      exact ⟨x, (· < w.heap.size), { e with kind := (by_ : Int) }, _, _, _, _, _, _, HCP.out.alloc _, rfl, rfl, rfl, HOK.out, { HEOK.out with kind := small_i64 (by dsimp only; omega) }, EvIn.mk13 { e with kind := (by_ : Int) } (HA2.out _) (HD2.out _) (HK2.out _) HIA.out HID.out HIK.out, HNB.out _, HY.out.alloc _, HR.out.alloc _, HBW.out _, HNC.out⟩
    · go_wp2
      go_meet
      exact ⟨x, (· < w.heap.size), { e with hart := (by_ : Int) - 2 }, _, _, _, _, _, _, HCP.out.alloc _, rfl, rfl, rfl, HOK.out, { HEOK.out with hart := small_i64 (by dsimp only; omega) }, EvIn.mk13 { e with hart := (by_ : Int) - 2 } (HA2.out _) (HD2.out _) (HK2.out _) HIA.out HID.out HIK.out, HNB.out _, HY.out.alloc _, HR.out.alloc _, HBW.out _, HNC.out⟩
    · go_wp2
      go_meet
      exact ⟨x, (· < w.heap.size), { e with addr := IntKind.u32.wrap (e.addr + (by_ : Int)) }, _, _, _, _, _, _, HCP.out.alloc _, rfl, rfl, rfl, HOK.out, { HEOK.out with addr := u32_wrap _ }, EvIn.mk13 { e with addr := IntKind.u32.wrap (e.addr + (by_ : Int)) } (HA2.out _) (HD2.out _) (HK2.out _) HIA.out HID.out HIK.out, HNB.out _, HY.out.alloc _, HR.out.alloc _, HBW.out _, HNC.out⟩
    · go_wp2
      go_meet
      exact ⟨x, (· < w.heap.size), { e with value := IntKind.u32.wrap (e.value + (by_ : Int)) }, _, _, _, _, _, _, HCP.out.alloc _, rfl, rfl, rfl, HOK.out, { HEOK.out with value := u32_wrap _ }, EvIn.mk13 { e with value := IntKind.u32.wrap (e.value + (by_ : Int)) } (HA2.out _) (HD2.out _) (HK2.out _) HIA.out HID.out HIK.out, HNB.out _, HY.out.alloc _, HR.out.alloc _, HBW.out _, HNC.out⟩
    · go_wp2
      go_meet
      exact ⟨x, (· < w.heap.size), { e with readv := IntKind.u32.wrap (e.readv + (by_ : Int)) }, _, _, _, _, _, _, HCP.out.alloc _, rfl, rfl, rfl, HOK.out, { HEOK.out with readv := u32_wrap _ }, EvIn.mk13 { e with readv := IntKind.u32.wrap (e.readv + (by_ : Int)) } (HA2.out _) (HD2.out _) (HK2.out _) HIA.out HID.out HIK.out, HNB.out _, HY.out.alloc _, HR.out.alloc _, HBW.out _, HNC.out⟩
    · go_wp2
      go_meet
      exact ⟨x, (· < w.heap.size), { e with aq := !e.aq }, _, _, _, _, _, _, HCP.out.alloc _, rfl, rfl, rfl, HOK.out, { HEOK.out with }, EvIn.mk13 { e with aq := !e.aq } (HA2.out _) (HD2.out _) (HK2.out _) HIA.out HID.out HIK.out, HNB.out _, HY.out.alloc _, HR.out.alloc _, HBW.out _, HNC.out⟩
    · go_wp2
      go_meet
      exact ⟨x, (· < w.heap.size), { e with rl := !e.rl }, _, _, _, _, _, _, HCP.out.alloc _, rfl, rfl, rfl, HOK.out, { HEOK.out with }, EvIn.mk13 { e with rl := !e.rl } (HA2.out _) (HD2.out _) (HK2.out _) HIA.out HID.out HIK.out, HNB.out _, HY.out.alloc _, HR.out.alloc _, HBW.out _, HNC.out⟩
    · go_wp2
      go_meet
      exact ⟨x, (· < w.heap.size), { e with resv := !e.resv }, _, _, _, _, _, _, HCP.out.alloc _, rfl, rfl, rfl, HOK.out, { HEOK.out with }, EvIn.mk13 { e with resv := !e.resv } (HA2.out _) (HD2.out _) (HK2.out _) HIA.out HID.out HIK.out, HNB.out _, HY.out.alloc _, HR.out.alloc _, HBW.out _, HNC.out⟩
    · go_wp2
      go_meet
      exact ⟨x, (· < w.heap.size), { e with pred := (by_ : Int) - 1, succ := (by_ : Int) - 2 }, _, _, _, _, _, _, HCP.out.alloc _, rfl, rfl, rfl, HOK.out, { HEOK.out with pred := small_i64 (by dsimp only; omega), succ := small_i64 (by dsimp only; omega) }, EvIn.mk13 { e with pred := (by_ : Int) - 1, succ := (by_ : Int) - 2 } (HA2.out _) (HD2.out _) (HK2.out _) HIA.out HID.out HIK.out, HNB.out _, HY.out.alloc _, HR.out.alloc _, HBW.out _, HNC.out⟩
    · go_wp2
      go_meet
      exact ⟨x, (· < w.heap.size), e, _, _, _, _, _, _, HCP.out.alloc _, rfl, rfl, rfl, HOK.out, HEOK.out, EvIn.mk13 e (HA2.out _) (HD2.out _) (HK2.out _) HIA.out HID.out HIK.out, HNB.out _, HY.out.alloc _, HR.out.alloc _, HBW.out _, HNC.out⟩
    · go_wp2
      go_meet
      exact ⟨x, (fun b => b < w.heap.size ∨ b = bY + 1 + 1), { e with addrs := [(i : Int) - (by_ : Int)] }, _, _, _, _, _, _, ((HCP.out.alloc _).alloc _).more (fun b h => .inl h) HCC.out, rfl, rfl, rfl, HOK.out, { HEOK.out with addrs := fun d hd => by simp at hd; first | (rcases hd with rfl | rfl <;> exact small_i64 (by omega)) | (subst hd; exact small_i64 (by omega)) }, EvIn.mk13 { e with addrs := [(i : Int) - (by_ : Int)] } (ints_block (l := [((i : Int) - (by_ : Int) : Int)]) (HNI.out _ _) (by simp)) ((HD2.out _).below ((Below.refl _ _).alloc (Nat.le_refl _) _)) ((HK2.out _).below ((Below.refl _ _).alloc (Nat.le_refl _) _)) (fun _ ad h => by injection h with h; subst h; exact .inr rfl) (HID.out.more fun b h => .inl h) (HIK.out.more fun b h => .inl h), HNO.out _ _, (HY.out.alloc _).alloc _, (HR.out.alloc _).alloc _, (HBW.out _).alloc (HBW.out _).size _, HNC2.out⟩
    · go_wp2
      go_meet
      exact ⟨x, (fun b => b < w.heap.size ∨ b = bY + 1 + 1), { e with datas := [(i : Int) - (by_ : Int), (i : Int) - (by_ : Int)] }, _, _, _, _, _, _, ((HCP.out.alloc _).alloc _).more (fun b h => .inl h) HCC.out, rfl, rfl, rfl, HOK.out, { HEOK.out with datas := fun d hd => by simp at hd; first | (rcases hd with rfl | rfl <;> exact small_i64 (by omega)) | (subst hd; exact small_i64 (by omega)) }, EvIn.mk13 { e with datas := [(i : Int) - (by_ : Int), (i : Int) - (by_ : Int)] } ((HA2.out _).below ((Below.refl _ _).alloc (Nat.le_refl _) _)) (ints_block (l := [((i : Int) - (by_ : Int) : Int), ((i : Int) - (by_ : Int) : Int)]) (HNI.out _ _) (by simp)) ((HK2.out _).below ((Below.refl _ _).alloc (Nat.le_refl _) _)) (HIA.out.more fun b h => .inl h) (fun _ ad h => by injection h with h; subst h; exact .inr rfl) (HIK.out.more fun b h => .inl h), HNO.out _ _, (HY.out.alloc _).alloc _, (HR.out.alloc _).alloc _, (HBW.out _).alloc (HBW.out _).size _, HNC2.out⟩
    · go_wp2
      go_meet
      exact ⟨x, (fun b => b < w.heap.size ∨ b = bY + 1 + 1), { e with ctrls := [(i : Int) - (by_ : Int), (i : Int) - (by_ : Int) + 1] }, _, _, _, _, _, _, ((HCP.out.alloc _).alloc _).more (fun b h => .inl h) HCC.out, rfl, rfl, rfl, HOK.out, { HEOK.out with ctrls := fun d hd => by simp at hd; first | (rcases hd with rfl | rfl <;> exact small_i64 (by omega)) | (subst hd; exact small_i64 (by omega)) }, EvIn.mk13 { e with ctrls := [(i : Int) - (by_ : Int), (i : Int) - (by_ : Int) + 1] } ((HA2.out _).below ((Below.refl _ _).alloc (Nat.le_refl _) _)) ((HD2.out _).below ((Below.refl _ _).alloc (Nat.le_refl _) _)) (ints_block (l := [((i : Int) - (by_ : Int) : Int), ((i : Int) - (by_ : Int) + 1 : Int)]) (HNI.out _ _) (by simp)) (HIA.out.more fun b h => .inl h) (HID.out.more fun b h => .inl h) (fun _ ad h => by injection h with h; subst h; exact .inr rfl), HNO.out _ _, (HY.out.alloc _).alloc _, (HR.out.alloc _).alloc _, (HBW.out _).alloc (HBW.out _).size _, HNC2.out⟩
    · by_cases hs : i < x.src.length
      case neg =>
        go_wp2
        go_meet
        exact ⟨x, (· < w.heap.size), e, _, _, _, _, _, _, HCP.out.alloc _, rfl, rfl, rfl, HOK.out, HEOK.out, EvIn.mk13 e (HA2.out _) (HD2.out _) (HK2.out _) HIA.out HID.out HIK.out, HNB.out _, HY.out.alloc _, HR.out.alloc _, HBW.out _, HNC.out⟩
      rcases own_form HF1.out with ⟨_, h0⟩ | ⟨gF, c2', hv, _, hg1, _⟩
      · omega
      have hA2 : A2 = some ⟨gF, 0, none⟩ := by injection hv
      subst hA2
      have hcpn := HCP.out.alloc (.cells #[.int .i64 e.hart, .int .i64 e.kind, .int .u32 e.addr, .int .u32 e.value, .int .u32 e.readv, .bool e.aq, .bool e.rl, .int .i64 e.pred, .int .i64 e.succ, .bool e.resv, .slice P1 e.addrs.length n1, .slice P2 e.datas.length n2, .slice P3 e.ctrls.length n3] 44)
      have hgb := hcpn.bF gF rfl
      obtain ⟨z, hz⟩ : ∃ z, x.src[i]? = some z := ⟨_, List.getElem?_eq_getElem hs⟩
      have hcell := own_cell hcpn.F (k := i) (by omega) (g := gF) rfl
      rw [List.getElem?_map, hz] at hcell
      have hfz := own_frozen hcpn.F (g := gF) rfl i
      have HCN := Lib.hid hcpn
      dsimp only [Option.map_some] at hcell
      clear hcpn hz hv
      go_wp2
      go_meet
      have hne : ∀ b, b < w.heap.size → some b ≠ some gF := fun b h e => by injection e with e; omega
      have hset : ∀ {z : Value} {cs : Array Value} {A : Option Addr} {l : List Int}, Ints (W1.setCell ⟨gF, i, none⟩ z) A l → Ints ((W1.setCell ⟨gF, i, none⟩ z).alloc (.cells cs 44)) A l := fun h => h.below ((Below.refl _ _).alloc (Nat.le_refl _) _)
      have hszS' : ∀ z : Value, (W1.setCell ⟨gF, i, none⟩ z).heap.size = W1.heap.size := fun z => by simp [World.setCell]
      have hszS : ∀ z : Value, (W1.setCell ⟨gF, i, none⟩ z).heap.size = bY + 1 := fun z => by rw [hszS' z, hsz1]
      exact ⟨{ x with src := x.src.set i ((by_ : Int) - 1) }, (· < w.heap.size), e, _, _, _, _, _, _, (HCP.out.setF (by decide) (by decide) hs rfl ((by_ : Int) - 1)).alloc _, rfl, by simp, rfl, { HOK.out with src := fun d hd => by rcases List.mem_or_eq_of_mem_set hd with hd | rfl; exact HOK.out.src d hd; exact small_i64 (by omega) }, HEOK.out,
        EvIn.mk13 e (hset (HA.out.keepC HIA.out (fun b o u hb hc => (grown_setCell W1 gF i (.int .i64 ((by_ : Int) - 1))).cell hc (hne b hb)))) (hset (HD.out.keepC HID.out (fun b o u hb hc => (grown_setCell W1 gF i (.int .i64 ((by_ : Int) - 1))).cell hc (hne b hb)))) (hset (HK.out.keepC HIK.out (fun b o u hb hc => (grown_setCell W1 gF i (.int .i64 ((by_ : Int) - 1))).cell hc (hne b hb)))) HIA.out HID.out HIK.out, by (rw [← hszS (.int .i64 ((by_ : Int) - 1))]; exact heap_alloc_new _ _), (HY.out.far (by show bY ≠ gF; omega) _).alloc _, (HR.out.far (by show w.heap.size + 1 ≠ gF; have := HSZ.out; omega) _).alloc _, ((HB0.out.trans (HBL.out.mono HB0.out.size)).setCell (by show w.heap.size ≤ gF; omega) _).alloc (by rw [hszS']; exact Nat.le_trans HB0.out.size HBL.out.size) _, HNC.out⟩
    · by_cases hs : i < x.src.length
      case neg =>
        go_wp2
        go_meet
        exact ⟨x, (· < w.heap.size), e, _, _, _, _, _, _, HCP.out.alloc _, rfl, rfl, rfl, HOK.out, HEOK.out, EvIn.mk13 e (HA2.out _) (HD2.out _) (HK2.out _) HIA.out HID.out HIK.out, HNB.out _, HY.out.alloc _, HR.out.alloc _, HBW.out _, HNC.out⟩
      rcases own_form HF1.out with ⟨_, h0⟩ | ⟨gF, c2', hv, _, hg1, _⟩
      · omega
      have hA2 : A2 = some ⟨gF, 0, none⟩ := by injection hv
      subst hA2
      have hcpn := HCP.out.alloc (.cells #[.int .i64 e.hart, .int .i64 e.kind, .int .u32 e.addr, .int .u32 e.value, .int .u32 e.readv, .bool e.aq, .bool e.rl, .int .i64 e.pred, .int .i64 e.succ, .bool e.resv, .slice P1 e.addrs.length n1, .slice P2 e.datas.length n2, .slice P3 e.ctrls.length n3] 44)
      have hgb := hcpn.bF gF rfl
      obtain ⟨z, hz⟩ : ∃ z, x.src[i]? = some z := ⟨_, List.getElem?_eq_getElem hs⟩
      have hcell := own_cell hcpn.F (k := i) (by omega) (g := gF) rfl
      rw [List.getElem?_map, hz] at hcell
      have hfz := own_frozen hcpn.F (g := gF) rfl i
      have HCN := Lib.hid hcpn
      dsimp only [Option.map_some] at hcell
      clear hcpn hz hv
      go_wp2
      go_meet
      have hne : ∀ b, b < w.heap.size → some b ≠ some gF := fun b h e => by injection e with e; omega
      have hset : ∀ {z : Value} {cs : Array Value} {A : Option Addr} {l : List Int}, Ints (W1.setCell ⟨gF, i, none⟩ z) A l → Ints ((W1.setCell ⟨gF, i, none⟩ z).alloc (.cells cs 44)) A l := fun h => h.below ((Below.refl _ _).alloc (Nat.le_refl _) _)
      have hszS' : ∀ z : Value, (W1.setCell ⟨gF, i, none⟩ z).heap.size = W1.heap.size := fun z => by simp [World.setCell]
      have hszS : ∀ z : Value, (W1.setCell ⟨gF, i, none⟩ z).heap.size = bY + 1 := fun z => by rw [hszS' z, hsz1]
      exact ⟨{ x with src := x.src.set i ((i : Int)) }, (· < w.heap.size), e, _, _, _, _, _, _, (HCP.out.setF (by decide) (by decide) hs rfl ((i : Int))).alloc _, rfl, by simp, rfl, { HOK.out with src := fun d hd => by rcases List.mem_or_eq_of_mem_set hd with hd | rfl; exact HOK.out.src d hd; exact small_i64 (by omega) }, HEOK.out,
        EvIn.mk13 e (hset (HA.out.keepC HIA.out (fun b o u hb hc => (grown_setCell W1 gF i (.int .i64 ((i : Int)))).cell hc (hne b hb)))) (hset (HD.out.keepC HID.out (fun b o u hb hc => (grown_setCell W1 gF i (.int .i64 ((i : Int)))).cell hc (hne b hb)))) (hset (HK.out.keepC HIK.out (fun b o u hb hc => (grown_setCell W1 gF i (.int .i64 ((i : Int)))).cell hc (hne b hb)))) HIA.out HID.out HIK.out, by (rw [← hszS (.int .i64 ((i : Int)))]; exact heap_alloc_new _ _), (HY.out.far (by show bY ≠ gF; omega) _).alloc _, (HR.out.far (by show w.heap.size + 1 ≠ gF; have := HSZ.out; omega) _).alloc _, ((HB0.out.trans (HBL.out.mono HB0.out.size)).setCell (by show w.heap.size ≤ gF; omega) _).alloc (by rw [hszS']; exact Nat.le_trans HB0.out.size HBL.out.size) _, HNC.out⟩
  case rest =>
    obtain ⟨x1, C, e1, R1, m1, R2, m2, R3, m3, hcp, hx1, hx2, hx3, hok1, heok1, hin, hbe, hy, hr, hbw, hnc⟩ := hcut
    clear HCP HA HD HK HIA HID HIK HY HR HBL HF1 HEOK HOK HHE d0 d1 d2 d3 d4 d5 d6 d7 d8 d9 d10 d11 d12 g0 g1y hsz1
    have HNBY := Lib.hid (show w.heap.size + 1 < W0.heap.size ∨ bY ≤ w.heap.size + 1 from by have := HSZ.out; omega)
    have HNCC := Lib.hid hnc
    obtain ⟨xs, hE, _⟩ := hcp.E
    rw [hx1] at hE
    have hq : ∀ r, r < 13 → ∃ u, wc.cell? ⟨gE, i * 13 + r, none⟩ = some u := fun r hr => by
      rw [own_cell hE (by omega) rfl]
      exact ⟨_, List.getElem?_eq_getElem (by rw [hE.1]; omega)⟩
    have hfz : ∀ k, wc.frozen? ⟨gE, k, none⟩ = false := fun k => own_frozen hE rfl k
    obtain ⟨u0, q0⟩ : ∃ u, wc.cell? ⟨gE, i * 13, none⟩ = some u := hq 0 (by omega)
    obtain ⟨u1, q1⟩ := hq 1 (by omega)
    obtain ⟨u2, q2⟩ := hq 2 (by omega)
    obtain ⟨u3, q3⟩ := hq 3 (by omega)
    obtain ⟨u4, q4⟩ := hq 4 (by omega)
    obtain ⟨u5, q5⟩ := hq 5 (by omega)
    obtain ⟨u6, q6⟩ := hq 6 (by omega)
    obtain ⟨u7, q7⟩ := hq 7 (by omega)
    obtain ⟨u8, q8⟩ := hq 8 (by omega)
    obtain ⟨u9, q9⟩ := hq 9 (by omega)
    obtain ⟨u10, q10⟩ := hq 10 (by omega)
    obtain ⟨u11, q11⟩ := hq 11 (by omega)
    obtain ⟨u12, q12⟩ := hq 12 (by omega)
    have ye0 := hy.cell0
    have hcs : ∀ (r : Nat) (u : Value), ([.int .i64 e1.hart, .int .i64 e1.kind, .int .u32 e1.addr, .int .u32 e1.value, .int .u32 e1.readv, .bool e1.aq, .bool e1.rl, .int .i64 e1.pred, .int .i64 e1.succ, .bool e1.resv, .slice R1 e1.addrs.length m1, .slice R2 e1.datas.length m2, .slice R3 e1.ctrls.length m3] : List Value)[r]? = some u → wc.cell? ⟨bY + 1, r, none⟩ = some u := fun r u hu => by
      rw [← hu]; simp [World.cell?, hbe]
    have e0 := hcs 0 _ rfl
    have e1' := hcs 1 _ rfl
    have e2 := hcs 2 _ rfl
    have e3 := hcs 3 _ rfl
    have e4 := hcs 4 _ rfl
    have e5 := hcs 5 _ rfl
    have e6 := hcs 6 _ rfl
    have e7 := hcs 7 _ rfl
    have e8 := hcs 8 _ rfl
    have e9 := hcs 9 _ rfl
    have e10 := hcs 10 _ rfl
    have e11 := hcs 11 _ rfl
    have e12 := hcs 12 _ rfl
    have HCP := Lib.hid hcp
    have HIN := Lib.hid hin
    have HY := Lib.hid hy
    have HR := Lib.hid hr
    have HBW := Lib.hid hbw
    have HOK := Lib.hid hok1
    have HEOK := Lib.hid heok1
    have HX1 := Lib.hid hx1
    have HX2 := Lib.hid hx2
    have HX3 := Lib.hid hx3
    clear hcp hin hy hr hbw hok1 heok1 hx1 hx2 hx3 hE hq hcs hbe hnc
    go_upto_region 34 with (fail)
    go_cut [] (fun wx => wx = wc.setCells gE (i * 13) [.int .i64 e1.hart, .int .i64 e1.kind, .int .u32 e1.addr, .int .u32 e1.value, .int .u32 e1.readv, .bool e1.aq, .bool e1.rl, .int .i64 e1.pred, .int .i64 e1.succ, .bool e1.resv, .slice R1 e1.addrs.length m1, .slice R2 e1.datas.length m2, .slice R3 e1.ctrls.length m3])
    case first =>
      go_wp2
      go_meet
      rfl
    case rest =>
      subst hcut
      have hcp2 := HCP.out.setEv (by decide) (by decide) (i := i) (g := gE) (by rw [HX1.out]; exact hi) rfl (by simp) HIN.out
      have hgb := HCP.out.bE gE rfl
      have hgr := grown_setCells gE [.int .i64 e1.hart, .int .i64 e1.kind, .int .u32 e1.addr, .int .u32 e1.value, .int .u32 e1.readv, .bool e1.aq, .bool e1.rl, .int .i64 e1.pred, .int .i64 e1.succ, .bool e1.resv, .slice R1 e1.addrs.length m1, .slice R2 e1.datas.length m2, .slice R3 e1.ctrls.length m3] wc (i * 13)
      have hy2 := HY.out.kept hgr (fun e => by injection e with e; omega)
      have hr2 := HR.out.kept hgr (fun e => by injection e with e; have := HSZ.out; omega)
      have hbw2 := below_setCells gE [.int .i64 e1.hart, .int .i64 e1.kind, .int .u32 e1.addr, .int .u32 e1.value, .int .u32 e1.readv, .bool e1.aq, .bool e1.rl, .int .i64 e1.pred, .int .i64 e1.succ, .bool e1.resv, .slice R1 e1.addrs.length m1, .slice R2 e1.datas.length m2, .slice R3 e1.ctrls.length m3] (i * 13) HBW.out (by omega)
      have hok2 : ExOk { x1 with evs := x1.evs.set i e1 } := { HOK.out with evs := fun d hd => by rcases List.mem_or_eq_of_mem_set hd with hd | rfl; exact HOK.out.evs d hd; exact HEOK.out }
      obtain ⟨W2, hW2⟩ : ∃ W2, wc.setCells gE (i * 13) [.int .i64 e1.hart, .int .i64 e1.kind, .int .u32 e1.addr, .int .u32 e1.value, .int .u32 e1.readv, .bool e1.aq, .bool e1.rl, .int .i64 e1.pred, .int .i64 e1.succ, .bool e1.resv, .slice R1 e1.addrs.length m1, .slice R2 e1.datas.length m2, .slice R3 e1.ctrls.length m3] = W2 := ⟨_, rfl⟩
      obtain ⟨x2, hx2⟩ : ∃ x2 : Ex, { x1 with evs := x1.evs.set i e1 } = x2 := ⟨_, rfl⟩
      have le2 : x2.evs.length = x.evs.length := by rw [← hx2]; show (x1.evs.set i e1).length = _; rw [List.length_set, HX1.out]
      have lf2 : x2.src.length = x.src.length := by rw [← hx2]; exact HX2.out
      have lo2 : x2.order = x.order := by rw [← hx2]; exact HX3.out
      rw [hW2, hx2] at hcp2
      rw [hW2] at hy2 hr2 hbw2 ⊢
      rw [hx2] at hok2
      clear hgr hW2 hx2 HCP HIN HY HR HBW HOK HEOK HX1 HX2 HX3 q0 q1 q2 q3 q4 q5 q6 q7 q8 q9 q10 q11 q12 hfz ye0 e0 e1' e2 e3 e4 e5 e6 e7 e8 e9 e10 e11 e12
      by_cases hw : how = 14
      case neg =>
        have q : ((how : Int) == 14) = false := beq_eq_false_iff_ne.2 (by omega)
        clear hw
        have fy0 := hy2.cell0
        have fy1 := hy2.cell1
        have fy2 := hy2.cell2
        have fr0 := hr2.cell0
        have fr1 := hr2.cell1
        have fr2 := hr2.cell2
        have fz0 := hr2.frozen 0
        have fz1 := hr2.frozen 1
        have fz2 := hr2.frozen 2
        have FEND := Lib.hid (changed_end hcp2 hr2 hbw2 hok2 (by omega) HNCC.out HNBY.out)
        clear hcp2 hr2 hbw2 hok2 hy2
        go_wp2
        obtain ⟨Wf, hWf, z0, z1, z2, hres⟩ := FEND.out
        rw [hWf]
        exact bodyPost_ret (v := .agg #[.slice (some ⟨gE, 0, none⟩) x.evs.length c1, .slice A2 x.src.length c2, .slice A3 x.order.length c3]) (by simp [results, Try.results16, go_sem, z0, z1, z2]) rfl hres
      subst hw
      by_cases hol : 0 < x.order.length
      case neg =>
        have fy0 := hy2.cell0
        have fy1 := hy2.cell1
        have fy2 := hy2.cell2
        have fr0 := hr2.cell0
        have fr1 := hr2.cell1
        have fr2 := hr2.cell2
        have fz0 := hr2.frozen 0
        have fz1 := hr2.frozen 1
        have fz2 := hr2.frozen 2
        have FEND := Lib.hid (changed_end hcp2 hr2 hbw2 hok2 (by omega) HNCC.out HNBY.out)
        clear hcp2 hr2 hbw2 hok2 hy2
        go_wp2
        obtain ⟨Wf, hWf, z0, z1, z2, hres⟩ := FEND.out
        rw [hWf]
        exact bodyPost_ret (v := .agg #[.slice (some ⟨gE, 0, none⟩) x.evs.length c1, .slice A2 x.src.length c2, .slice A3 x.order.length c3]) (by simp [results, Try.results16, go_sem, z0, z1, z2]) rfl hres
      have hO := hcp2.O
      rw [lo2] at hO
      rcases own_form hO with ⟨_, h0⟩ | ⟨gO, c3', hv, _, hgO, _⟩
      · omega
      have hA3 : A3 = some ⟨gO, 0, none⟩ := by injection hv
      subst hA3
      obtain ⟨kk, hkk⟩ : ∃ kk, by_ % x.order.length = kk := ⟨_, rfl⟩
      have hkl : kk < x.order.length := by rw [← hkk]; exact Nat.mod_lt _ hol
      have hrem : Int.tmod (by_ : Int) (x.order.length : Int) = (kk : Int) := by rw [← hkk, Int.tmod_eq_emod_of_nonneg (by omega)]; rfl
      obtain ⟨vJ, hvJ, hrowJ⟩ := hcp2.R.row kk (by rw [lo2]; exact hkl)
      obtain ⟨l, hl⟩ : ∃ l, x2.order[kk]?.getD [] = l := ⟨_, rfl⟩
      rw [hl] at hrowJ
      obtain ⟨AJ, cJ, rfl⟩ := own_slice hrowJ
      have hcJ : W2.cell? ⟨gO, kk, none⟩ = some (.slice AJ l.length cJ) := by rw [own_cell hO (by omega) (g := gO) rfl, hvJ]
      have hl1 : l.length ≤ 17592186044416 := hcp2.small.row l (by rw [← hl, List.getElem?_eq_getElem (by rw [lo2]; exact hkl)]; exact List.getElem_mem _)
      have y2 : ∀ s : Fut W2, s.val.cell? ⟨bY, 2, none⟩ = some (.slice (some ⟨gO, 0, none⟩) x.order.length c3) := fun s => s.cell hy2.cell2
      have yJ : ∀ s : Fut W2, s.val.cell? ⟨gO, kk, none⟩ = some (.slice AJ l.length cJ) := fun s => s.cell hcJ
      have hfJ := own_form hrowJ
      have HCP := Lib.hid hcp2
      have HY := Lib.hid hy2
      have HR := Lib.hid hr2
      have HBW := Lib.hid hbw2
      have HOK := Lib.hid hok2
      have HVJ := Lib.hid hvJ
      have HL := Lib.hid hl
      have HKK := Lib.hid hkk
      have ki : (0 : Int) ≤ (kk : Int) := by omega
      have ki2 : (kk : Int) < (x.order.length : Int) := by omega
      have yy0 := y2 ⟨W2, Below.refl _ _⟩
      clear hcp2 hy2 hr2 hbw2 hok2 hvJ hl hO hrowJ hcJ hkk hv
      go_upto_region 36 with (fail)
      clear yy0
      refine wp_region_futs (⟨W2, Below.refl _ _⟩ : Fut W2) (by kernel_rfl) (lexOf lexChg36 (by kernel_rfl)) ?_
      repeat (first
        | (refine wpQuiet_or rfl rfl rfl rfl ?_; simp only [Act.put, List.setIfInBounds_toArray, List.set_cons_succ, List.set_cons_zero])
        | (refine wpQuiet_and rfl rfl rfl rfl ?_; simp only [Act.put, List.setIfInBounds_toArray, List.set_cons_succ, List.set_cons_zero])
        | go_big_quiet_skip
        | (go_big_quiet_want; go_big_quiet_op; first | go_big_quiet_on | go_big_quiet_call ((fail)))
        | (refine wpQuiet_dead (by first | exact wanted_t rfl rfl rfl | exact wanted_f rfl rfl rfl | exact wanted_ts rfl rfl rfl | exact wanted_fs rfl rfl rfl) rfl (of_decide_eq_true rfl) (by simp only [Bool.not_true, Bool.and_false, Bool.false_and, Bool.or_true, Bool.true_or]) ?_; simp only [Act.put, List.setIfInBounds_toArray, List.set_cons_succ, List.set_cons_zero])
        | (refine wpQuiet_or_und rfl (by first | exact wanted_t rfl rfl rfl | exact wanted_f rfl rfl rfl | exact wanted_ts rfl rfl rfl | exact wanted_fs rfl rfl rfl) rfl (of_decide_eq_true rfl) rfl rfl ?_; simp only [Act.put, List.setIfInBounds_toArray, List.set_cons_succ, List.set_cons_zero])
        | (refine wpQuiet_and_und rfl (by first | exact wanted_t rfl rfl rfl | exact wanted_f rfl rfl rfl | exact wanted_ts rfl rfl rfl | exact wanted_fs rfl rfl rfl) rfl (of_decide_eq_true rfl) rfl rfl ?_; simp only [Act.put, List.setIfInBounds_toArray, List.set_cons_succ, List.set_cons_zero])
        | (refine wpQuiet_und (by first | exact wanted_t rfl rfl rfl | exact wanted_f rfl rfl rfl | exact wanted_ts rfl rfl rfl | exact wanted_fs rfl rfl rfl) rfl (of_decide_eq_true rfl) ?_
           apply Exists.intro
           refine ⟨fun hb => ?_, ?_⟩
           · (skip)
             (try simp only [sel_of hb])
             (try (have hb1 := and_l hb; (try simp only [sel_of hb1]); (try (have hb2 := and_l hb1; (try simp only [sel_of hb2]); (try (have hb3 := and_l hb2; (try simp only [sel_of hb3])))))))
             go_big_quiet_op
             first | ((show Act.eval _ (Operand.tmp _) = _); conv => (lhs; whnf)) | (apply Exists.intro; refine ⟨fun _ => ?_, ?_⟩; (focus (fail)); ((show Act.eval _ (Operand.tmp _) = _); conv => (lhs; whnf)))
           simp only [Act.put, List.setIfInBounds_toArray, List.set_cons_succ, List.set_cons_zero]))
      refine wpQuiet_nil ?_
      intro s
      have hcp3 := HCP.out.below s.below
      have hy3 := HY.out.below s.below HY.out.lt
      have hr3 := HR.out.below s.below HR.out.lt
      have hbw3 := HBW.out.trans (s.below.mono HBW.out.size)
      have HB3 := Lib.hid hcp3
      have HY3 := Lib.hid hy3
      have HR3 := Lib.hid hr3
      have HBW3 := Lib.hid hbw3
      clear hcp3 hy3 hr3 hbw3 y2 yJ
      go_wp2
      go_loopw [12] (fun i' wr => ∃ (k : Nat) (x3 : Ex), k ≤ l.length ∧ i' = .int .i64 k ∧ Cp wr C W0.heap.size bY 44 3 23 x3 (.slice (some ⟨gE, 0, none⟩) x.evs.length c1) (.slice A2 x.src.length c2) (.slice (some ⟨gO, 0, none⟩) x.order.length c3) vs ∧ x3.order.length = x.order.length ∧ (x3.order[kk]?.getD []).length = l.length ∧ ExOk x3 ∧
          Box3 wr bY 26 (.slice (some ⟨gE, 0, none⟩) x.evs.length c1) (.slice A2 x.src.length c2) (.slice (some ⟨gO, 0, none⟩) x.order.length c3) ∧ Box3 wr (w.heap.size + 1) 26 (.slice none 0 0) (.slice none 0 0) (.slice none 0 0) ∧ Below w.heap.size w wr) (fun i' _ => l.length - (intOf i').toNat)
      case atStart => exact ⟨0, x2, Nat.zero_le _, rfl, HB3.out, by rw [lo2], by rw [HL.out], HOK.out, HY3.out, HR3.out, HBW3.out⟩
      case round =>
        obtain ⟨k, x3, hk, rfl, hcp4, lo3, ll3, hok4, hy4, hr4, hbw4⟩ := hrel
        by_cases h1 : k + 1 < l.length
        case neg =>
          have fy0 := hy4.cell0
          have fy1 := hy4.cell1
          have fy2 := hy4.cell2
          have fr0 := hr4.cell0
          have fr1 := hr4.cell1
          have fr2 := hr4.cell2
          have fz0 := hr4.frozen 0
          have fz1 := hr4.frozen 1
          have fz2 := hr4.frozen 2
          have FEND := Lib.hid (changed_end hcp4 hr4 hbw4 hok4 (by omega) HNCC.out HNBY.out)
          clear hcp4 hr4 hbw4 hok4 hy4
          go_wp2
          obtain ⟨Wf, hWf, z0, z1, z2, hres⟩ := FEND.out
          rw [hWf]
          exact bodyPost_ret (v := .agg #[.slice (some ⟨gE, 0, none⟩) x.evs.length c1, .slice A2 x.src.length c2, .slice (some ⟨gO, 0, none⟩) x.order.length c3]) (by simp [results, Try.results16, go_sem, z0, z1, z2]) rfl hres
        by_cases h2 : k ≤ i
        case neg =>
          have fy0 := hy4.cell0
          have fy1 := hy4.cell1
          have fy2 := hy4.cell2
          have fr0 := hr4.cell0
          have fr1 := hr4.cell1
          have fr2 := hr4.cell2
          have fz0 := hr4.frozen 0
          have fz1 := hr4.frozen 1
          have fz2 := hr4.frozen 2
          have FEND := Lib.hid (changed_end hcp4 hr4 hbw4 hok4 (by omega) HNCC.out HNBY.out)
          clear hcp4 hr4 hbw4 hok4 hy4
          go_wp2
          obtain ⟨Wf, hWf, z0, z1, z2, hres⟩ := FEND.out
          rw [hWf]
          exact bodyPost_ret (v := .agg #[.slice (some ⟨gE, 0, none⟩) x.evs.length c1, .slice A2 x.src.length c2, .slice (some ⟨gO, 0, none⟩) x.order.length c3]) (by simp [results, Try.results16, go_sem, z0, z1, z2]) rfl hres
        rcases hfJ with ⟨_, h0⟩ | ⟨gJ, cJ', hv, _, hgJ, _⟩
        · omega
        have hAJ : AJ = some ⟨gJ, 0, none⟩ := by injection hv
        subst hAJ
        obtain ⟨v', hv', hrow'⟩ := hcp4.R.row kk (by rw [lo3]; exact hkl)
        rw [HVJ.out] at hv'
        injection hv' with hv'
        subst hv'
        obtain ⟨l3, hl3⟩ : ∃ l3, x3.order[kk]?.getD [] = l3 := ⟨_, rfl⟩
        rw [hl3] at hrow' ll3
        obtain ⟨za, hza⟩ : ∃ z, l3[k]? = some z := ⟨_, List.getElem?_eq_getElem (by omega)⟩
        obtain ⟨zb, hzb⟩ : ∃ z, l3[k + 1]? = some z := ⟨_, List.getElem?_eq_getElem (by omega)⟩
        have ca := own_cell hrow' (k := k) (by omega) (g := gJ) rfl
        have cb := own_cell hrow' (k := k + 1) (by omega) (g := gJ) rfl
        rw [List.getElem?_map, hza] at ca
        rw [List.getElem?_map, hzb] at cb
        dsimp only [Option.map_some] at ca cb
        have fa := own_frozen hrow' (g := gJ) rfl k
        have fb := own_frozen hrow' (g := gJ) rfl (k + 1)
        have hmem : l3 ∈ x3.order := by rw [← hl3, List.getElem?_eq_getElem (by rw [lo3]; exact hkl)]; exact List.getElem_mem _
        have oa := hok4.order l3 hmem za (List.mem_of_getElem? hza)
        have ob := hok4.order l3 hmem zb (List.mem_of_getElem? hzb)
        have hgbJ := hcp4.R.bnd _ (List.mem_of_getElem? HVJ.out) gJ rfl
        have hA1 := hcp4.setR (by decide) (by decide) (k := kk) (i := k) (g := gJ) (by rw [lo3]; exact hkl) hl3 HVJ.out (by omega) rfl zb
        have hA2 := hA1.setR (by decide) (by decide) (k := kk) (i := k + 1) (g := gJ) (l := l3.set k zb) (by show kk < (x3.order.set kk (l3.set k zb)).length; rw [List.length_set, lo3]; exact hkl) (set_row (by rw [lo3]; exact hkl) _) HVJ.out (by rw [List.length_set]; omega) rfl za
        have kA := set_ok (set_ok hok4 (i := k) (by rw [lo3]; exact hkl) hl3 ob) (k := kk) (i := k + 1) (by show kk < (x3.order.set kk (l3.set k zb)).length; rw [List.length_set, lo3]; exact hkl) (set_row (by rw [lo3]; exact hkl) _) oa
        have HA2 := Lib.hid hA2
        have KA := Lib.hid kA
        have HY4 := Lib.hid hy4
        have HR4 := Lib.hid hr4
        have HBW4 := Lib.hid hbw4
        have n1 : bY ≠ gJ := by omega
        have n2 : w.heap.size + 1 ≠ gJ := by have := HSZ.out; omega
        have n3 : w.heap.size ≤ gJ := by omega
        have N1 := Lib.hid n1
        have N2 := Lib.hid n2
        have HZ3 := Lib.hid lo3
        have HLL := Lib.hid ll3
        clear hcp4 hA1 hA2 kA hy4 hr4 hbw4 hrow' hza hzb oa ob hmem hl3 hok4 hv n1 n2 lo3 ll3
        go_upto_region 40 with (fail)
        go_region
        all_goals
          go_wp2
          go_roundw
          case rel =>
            exact ⟨k + 1, by omega, by simp, { x3 with order := (x3.order.set kk (l3.set k zb)).set kk ((l3.set k zb).set (k + 1) za) }, HA2.out.drew, by simp only [List.length_set]; exact HZ3.out, by (rw [set_row (by rw [List.length_set, HZ3.out]; exact hkl), List.length_set, List.length_set]; exact HLL.out), KA.out, ((HY4.out.far N1.out _).far N1.out _).drew, ((HR4.out.far N2.out _).far N2.out _).drew, ((HBW4.out.setCell n3 _).setCell n3 _).drew⟩
          case measure => simp [intOf]; omega
end Go.Proofs.Ytacnbdnmkmpldaa
