/- The statements' known: a store that is read. -/
import Derived.Test.YtacnbdnmkmpldaaGreatEvS
import Derived.Test.YtacnbdnmkmpldaaGreatAcD
import Derived.Test.YtacnbdnmkmpldaaGreatPure
namespace Go.Proofs.YtacnbdnmkmpldaaGreat
open Go Go.Proofs Go.RowKit Q
set_option linter.unusedSimpArgs false
set_option linter.unusedVariables false

instance i64Dec (n : Int) : Decidable (i64R n) := inferInstanceAs (Decidable (_ ∧ _))
instance u32Dec (n : Int) : Decidable (u32R n) := inferInstanceAs (Decidable (_ ∧ _))
def kEx : Ex := ⟨[⟨-1, 5, 0, 0, 0, false, false, 0, 0, false, [], [], []⟩, ⟨0, 2, 0, 1, 0, false, false, 0, 0, false, [], [], []⟩, ⟨1, 1, 0, 0, 1, false, false, 0, 0, false, [], [], []⟩], [-1, -1, 1], [[0, 1]]⟩
theorem kEx_ok : ExOk kEx := by
  refine ⟨fun e he => ?_, fun f hf => ?_, fun l hl d hd => ?_⟩
  · simp only [kEx, List.mem_cons, List.not_mem_nil, or_false] at he
    rcases he with rfl | rfl | rfl <;> exact ⟨by decide, by decide, by decide, by decide, by decide, by decide, by decide, by simp, by simp, by simp⟩
  · simp only [kEx, List.mem_cons, List.not_mem_nil, or_false] at hf
    rcases hf with rfl | rfl | rfl <;> decide
  · simp only [kEx, List.mem_cons, List.not_mem_nil, or_false] at hl
    subst hl
    simp only [List.mem_cons, List.not_mem_nil, or_false] at hd
    rcases hd with rfl | rfl <;> decide
theorem kEx_order : orderB kEx (addrsOf kEx.evs) = true := by
  have ha : addrsOf kEx.evs = [0] := by decide
  rw [ha]
  have h : orderOk kEx [0] 0 [0, 1] = true := by
    rw [orderOk_ref (by decide)]; decide
  unfold orderB
  show (([[0, 1]] : List (List Int)).length == [0].length && (List.range 1).all fun i => orderOk kEx [0] i ([[0, 1]].getD i [])) = true
  simp [List.range_succ, h]
theorem kEx_check : checkV kEx = 0 := by
  unfold checkV
  rw [if_neg (by decide), if_neg (by decide), if_neg (by decide), kEx_order]; rfl
theorem kEx_rf : rfV kEx = [(1, 2)] := by
  unfold rfV
  rw [if_pos kEx_check]
  have : rfL kEx = [(1, 2)] := by decide
  rw [this]; simp [sortP]
theorem kAc : acyclicV 2 [(0, 1), (1, 0)] = false := by decide

/-- The events' cells of 'known'. -/
def kCells : Array Value := #[.int .i64 (-1), .int .i64 5, .int .u32 0, .int .u32 0, .int .u32 0, .bool false, .bool false, .int .i64 0, .int .i64 0, .bool false, .slice none 0 0, .slice none 0 0, .slice none 0 0,
  .int .i64 0, .int .i64 2, .int .u32 0, .int .u32 1, .int .u32 0, .bool false, .bool false, .int .i64 0, .int .i64 0, .bool false, .slice none 0 0, .slice none 0 0, .slice none 0 0,
  .int .i64 1, .int .i64 1, .int .u32 0, .int .u32 0, .int .u32 1, .bool false, .bool false, .int .i64 0, .int .i64 0, .bool false, .slice none 0 0, .slice none 0 0, .slice none 0 0]
theorem ints_nil (w : World) : ∃ A c, some (Value.slice none 0 0) = some (Value.slice A ([] : List Int).length c) ∧ Ints w A [] := ⟨none, 0, rfl, by simp, fun h => by simp at h⟩
theorem kEvs {w : World} {b : Nat} (h : ∀ o, w.cell? ⟨b, o, none⟩ = kCells[o]?) : Evs w (some ⟨b, 0, none⟩) kEx.evs := by
  refine ⟨by decide, fun _ => ⟨b, 0, rfl, fun j hj => ?_⟩⟩
  match j, hj with
  | 0, _ => exact ⟨h _, h _, h _, h _, h _, h _, h _, h _, h _, h _, by rw [h]; exact ints_nil w, by rw [h]; exact ints_nil w, by rw [h]; exact ints_nil w⟩
  | 1, _ => exact ⟨h _, h _, h _, h _, h _, h _, h _, h _, h _, h _, by rw [h]; exact ints_nil w, by rw [h]; exact ints_nil w, by rw [h]; exact ints_nil w⟩
  | 2, _ => exact ⟨h _, h _, h _, h _, h _, h _, h _, h _, h _, h _, by rw [h]; exact ints_nil w, by rw [h]; exact ints_nil w, by rw [h]; exact ints_nil w⟩
theorem ints_cells {w : World} {b : Nat} {l : List Int} {cs : Array Value} (hl : l.length ≤ 1000) (h : ∀ o, w.cell? ⟨b, o, none⟩ = cs[o]?) (hc : ∀ j, j < l.length → cs[j]? = some (.int .i64 (l[j]?.getD 0))) : Ints w (some ⟨b, 0, none⟩) l :=
  ⟨by omega, fun _ => ⟨b, 0, rfl, fun j hj => by rw [h, Nat.zero_add]; exact hc j hj⟩⟩
/-- The cells of a block. -/
theorem cells_of {w : World} {b : Nat} {cs : Array Value} {t : TypeId} {fr : Nat × Nat} (h : w.heap[b]? = some (.cells cs t fr)) : ∀ o, w.cell? ⟨b, o, none⟩ = cs[o]? := fun o => by simp [World.cell?, h]
theorem five_blocks (w : World) (o0 o1 o2 o3 o4 : Obj) : ∃ W, (((((w.alloc o0).alloc o1).alloc o2).alloc o3).alloc o4) = W ∧ Below w.heap.size w W ∧ W.heap[w.heap.size]? = some o0 ∧ W.heap[w.heap.size + 1]? = some o1 ∧ W.heap[w.heap.size + 1 + 1]? = some o2 ∧ W.heap[w.heap.size + 1 + 1 + 1]? = some o3 ∧ W.heap[w.heap.size + 1 + 1 + 1 + 1]? = some o4 ∧ w.heap.size + 1 + 1 + 1 + 1 < W.heap.size := by
  refine ⟨_, rfl, (((((Below.refl _ _).alloc (Nat.le_refl _) _).alloc (by simp) _).alloc (by first | (simp; done) | (simp; omega)) _).alloc (by first | (simp; done) | (simp; omega)) _).alloc (by first | (simp; done) | (simp; omega)) _, ?_, ?_, ?_, ?_, ?_, by simp⟩
  · rw [Below.heap_alloc _ _ _ (by first | (simp; done) | (simp; omega)), Below.heap_alloc _ _ _ (by first | (simp; done) | (simp; omega)), Below.heap_alloc _ _ _ (by first | (simp; done) | (simp; omega)), Below.heap_alloc _ _ _ (by simp)]; exact World.alloc_heap_new w _
  · rw [Below.heap_alloc _ _ _ (by first | (simp; done) | (simp; omega)), Below.heap_alloc _ _ _ (by first | (simp; done) | (simp; omega)), Below.heap_alloc _ _ _ (by simp)]; have := World.alloc_heap_new (w.alloc o0) o1; rwa [World.size_alloc] at this
  · rw [Below.heap_alloc _ _ _ (by first | (simp; done) | (simp; omega)), Below.heap_alloc _ _ _ (by simp)]; have := World.alloc_heap_new ((w.alloc o0).alloc o1) o2; rwa [World.size_alloc, World.size_alloc] at this
  · rw [Below.heap_alloc _ _ _ (by simp)]; have := World.alloc_heap_new (((w.alloc o0).alloc o1).alloc o2) o3; rwa [World.size_alloc, World.size_alloc, World.size_alloc] at this
  · have := World.alloc_heap_new ((((w.alloc o0).alloc o1).alloc o2).alloc o3) o4; rwa [World.size_alloc, World.size_alloc, World.size_alloc, World.size_alloc] at this

set_option maxRecDepth 100000 in
set_option maxHeartbeats 4000000 in
theorem known_any (w : World) : Calls Tryz.prog 21 #[] w fun e w' => e = .returned (.bool true) ∧ Below w.heap.size w w' := by
  go_enter Tryz.func21, Tryz.ntmps21
  go_upto_region 2 with (fail)
  obtain ⟨W, hW, hB, h0, h1, h2, h3, h4, hsz⟩ := five_blocks w (.cells kCells 42) (.cells #[.int .i64 (-1), .int .i64 (-1), .int .i64 1] 3) (.cells #[.int .i64 0, .int .i64 1] 3) (.cells #[.slice (some ⟨w.heap.size + 1 + 1, 0, none⟩) 2 2] 23)
    (.cells #[.slice (some ⟨w.heap.size, 0, none⟩) 3 3, .slice (some ⟨w.heap.size + 1, 0, none⟩) 3 3, .slice (some ⟨w.heap.size + 1 + 1 + 1, 0, none⟩) 1 1] 26)
  unfold kCells at hW
  rw [hW]
  have hE := kEvs (cells_of h0)
  have hF : Ints W (some ⟨w.heap.size + 1, 0, none⟩) kEx.src := ints_cells (by decide) (cells_of h1) (fun j hj => by match j, hj with | 0, _ => rfl | 1, _ => rfl | 2, _ => rfl)
  have hO1 : Ints W (some ⟨w.heap.size + 1 + 1, 0, none⟩) [0, 1] := ints_cells (by decide) (cells_of h2) (fun j hj => by match j, hj with | 0, _ => rfl | 1, _ => rfl)
  have hO : Q.Rows W (some ⟨w.heap.size + 1 + 1 + 1, 0, none⟩) kEx.order := ⟨by decide, fun _ => ⟨_, 0, rfl, fun j hj => by match j, hj with | 0, _ => exact ⟨_, 2, cells_of h3 0, hO1⟩⟩⟩
  have c0 : W.cell? ⟨w.heap.size + 1 + 1 + 1 + 1, 0, none⟩ = some (.slice (some ⟨w.heap.size, 0, none⟩) 3 3) := cells_of h4 0
  have c1 : W.cell? ⟨w.heap.size + 1 + 1 + 1 + 1, 1, none⟩ = some (.slice (some ⟨w.heap.size + 1, 0, none⟩) 3 3) := cells_of h4 1
  have c2 : W.cell? ⟨w.heap.size + 1 + 1 + 1 + 1, 2, none⟩ = some (.slice (some ⟨w.heap.size + 1 + 1 + 1, 0, none⟩) 1 1) := cells_of h4 2
  clear hW h0 h1 h2 h3 h4 hO1
  have hR := Lib.hid (rf_any kEx kEx_ok _ _ _ 3 3 1 W hE hF hO)
  go_wp2_with fail
  refine hR.out.mono ?_
  rintro e w1 ⟨A, c, rfl, hP, hb1⟩
  rw [kEx_rf] at hP ⊢
  obtain ⟨b, off, rfl, hpc⟩ := hP.2 (by simp)
  obtain ⟨hp0, hp1⟩ := hpc 0 (by simp)
  have e0 : w1.cell? ⟨b, off, none⟩ = some (.int .i64 1) := by simpa using hp0
  have e1 : w1.cell? ⟨b, off + 1, none⟩ = some (.int .i64 2) := by simpa using hp1
  have hE1 := hE.below hb1
  have hF1 := hF.below hb1
  have hO1 := hO.below hb1
  have hB1 := hB.trans (hb1.mono hB.size)
  have d0 := (hb1.cell (p := ⟨w.heap.size + 1 + 1 + 1 + 1, 0, none⟩) hsz).trans c0
  have d1 := (hb1.cell (p := ⟨w.heap.size + 1 + 1 + 1 + 1, 1, none⟩) hsz).trans c1
  have d2 := (hb1.cell (p := ⟨w.heap.size + 1 + 1 + 1 + 1, 2, none⟩) hsz).trans c2
  have hC := Lib.hid (check_any kEx kEx_ok _ _ _ 3 3 1 w1 hE1 hF1 hO1)
  have hbl := World.block_lt_of_cell? w1 _ e0
  clear hP hpc hp0 hp1 hE hF hO hE1 hF1 hO1 c0 c1 c2 hb1 hR
  go_wp2_with fail
  refine hC.out.mono ?_
  rintro e w2 ⟨rfl, hb2⟩
  rw [kEx_check]
  have g0 := (hb2.cell (p := ⟨b, off, none⟩) hbl).trans e0
  have g1 := (hb2.cell (p := ⟨b, off + 1, none⟩) hbl).trans e1
  have hB2 := hB1.trans (hb2.mono hB1.size)
  clear e0 e1 d0 d1 d2 hC
  go_wp2_with fail
  have hb3 : Below w2.heap.size w2 (w2.alloc (.cells #[.int .i64 0, .int .i64 1, .int .i64 1, .int .i64 0] 38)) := (Below.refl _ _).alloc (Nat.le_refl _) _
  have hn := cells_of (World.alloc_heap_new w2 (.cells #[.int .i64 0, .int .i64 1, .int .i64 1, .int .i64 0] 38))
  have hP2 : Prs (w2.alloc (.cells #[.int .i64 0, .int .i64 1, .int .i64 1, .int .i64 0] 38)) (some ⟨w2.heap.size, 0, none⟩) [(0, 1), (1, 0)] := ⟨by simp, fun _ => ⟨_, 0, rfl, fun j hj => by match j, hj with | 0, _ => exact ⟨hn 0, hn 1⟩ | 1, _ => exact ⟨hn 2, hn 3⟩⟩⟩
  have hB3 := hB2.trans (hb3.mono hB2.size)
  refine (acyclic_any 2 [(0, 1), (1, 0)] _ 2 _ hP2 (by simp)).mono ?_
  rintro e w4 ⟨rfl, hb4⟩
  rw [kAc]
  have hB4 := hB3.trans (hb4.mono hB3.size)
  clear hP2 hn hb3 hb4 hB3 g0 g1
  go_wp2
  go_ret
  exact ⟨rfl, hB4⟩
end Go.Proofs.YtacnbdnmkmpldaaGreat
