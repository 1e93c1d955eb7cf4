/- The reference's Addresses: the addresses that events have, rising. -/
import Derived.Test.YtacnbdnmkmpldaaGreatEvF
import Derived.Laws.AppendOwnNone
namespace Go.Proofs.YtacnbdnmkmpldaaGreat
open Go.RowKit Q
set_option linter.unusedSimpArgs false
set_option linter.unusedVariables false

theorem ins_at {a : Int} : ∀ (l : List Int) (p : Nat), p ≤ l.length → (∀ j, j < p → l[j]?.getD 0 < a) → (p < l.length → ¬ l[p]?.getD 0 < a) →
    ins a l = if p < l.length ∧ l[p]?.getD 0 = a then l else l.take p ++ a :: l.drop p := by
  intro l
  induction l with
  | nil => intro p hp _ _; simp at hp; subst hp; simp [ins]
  | cons b l ih =>
    intro p hp h1 h2
    cases p with
    | zero =>
      have h3 := h2 (by simp)
      simp only [List.getElem?_cons_zero, Option.getD_some] at h3
      simp [ins, h3]
    | succ p =>
      have h3 := h1 0 (by omega)
      simp only [List.getElem?_cons_zero, Option.getD_some] at h3
      have := ih p (by simpa using hp) (fun j hj => by simpa using h1 (j + 1) (by omega)) (fun hj => by simpa using h2 (by simpa using hj))
      simp only [ins, h3, if_true, this, List.length_cons, Nat.add_lt_add_iff_right, List.getElem?_cons_succ, List.take_succ_cons, List.drop_succ_cons]
      split <;> simp
/-- The addresses of the first k events. -/
def addrsTo (x : Ex) (k : Nat) : List Int := (x.evs.take k).foldl (fun acc e => if e.kind = 4 then acc else ins e.addr acc) []
theorem addrsTo_succ {x : Ex} {k : Nat} {e : Ev} (hk : k < x.evs.length) (he : e = x.evs[k]?.getD zev) : addrsTo x (k + 1) = if e.kind = 4 then addrsTo x k else ins e.addr (addrsTo x k) := by
  subst he
  simp only [addrsTo, List.take_add_one, List.getElem?_eq_getElem hk, Option.toList_some, List.foldl_append, List.foldl_cons, List.foldl_nil, Option.getD_some]
theorem ins_len (a : Int) : ∀ l : List Int, (ins a l).length ≤ l.length + 1
  | [] => by simp [ins]
  | b :: l => by
    have := ins_len a l
    simp only [ins]
    by_cases h1 : b < a
    · rw [if_pos h1]; simp; omega
    · rw [if_neg h1]
      by_cases h2 : b = a
      · rw [if_pos h2]; simp
      · rw [if_neg h2]; simp
theorem addrsTo_len (x : Ex) : ∀ k, k ≤ x.evs.length → (addrsTo x k).length ≤ k
  | 0, _ => by simp [addrsTo]
  | k + 1, hk => by
    have h1 := addrsTo_len x k (by omega)
    rw [addrsTo_succ (by omega) rfl]
    split
    · omega
    · have := ins_len (x.evs[k]?.getD zev).addr (addrsTo x k); omega
theorem owned_base {W : World} {base base' : Nat} {e : TypeId} {size : Nat} {v : Value} {k : Nat} {xs : List Value} (h : W.ownsRow base e size v k xs) (hb : base' ≤ base) : W.ownsRow base' e size v k xs := by
  refine ⟨h.1, ?_⟩
  rcases h.2 with hn | ⟨g, cap, cur, hv, hbg, rest⟩
  · exact .inl hn
  · exact .inr ⟨g, cap, cur, hv, Nat.le_trans hb hbg, rest⟩

theorem infoU : (Tryz.prog.info? 40).map (fun i => (i.zero, i.size, i.bytes)) = some (some (.int .u32 0), 1, 4) := by kernel_rfl

theorem owned_cases {w : World} {base : Nat} {e : TypeId} {size n : Nat} {v : Value} {xs : List Value} (h : w.ownsRow base e size v n xs) : (v = .slice none 0 0) ∨ ∃ g c, v = .slice (some ⟨g, 0, none⟩) n c := by
  rcases h.2 with ⟨h, _⟩ | ⟨g, c, _, h, _⟩
  · exact .inl h
  · exact .inr ⟨g, c, h⟩
theorem addr_add (g q j : Nat) : Addr.add ⟨g, q, none⟩ j = ⟨g, q + j, none⟩ := by
  unfold Addr.add; split <;> simp_all
theorem one_u32 (l : List Int) : ∀ u ∈ l.map (Value.int .u32), u.oneCell' = true := by
  intro u hu
  obtain ⟨x, _, rfl⟩ := List.mem_map.1 hu
  rfl
theorem cells_take {w : World} {g q : Nat} {l : List Int} (h : ∀ j, j < l.length → w.cell? ⟨g, 0 + j, none⟩ = some (.int .u32 (l[j]?.getD 0))) :
    ∀ j u, ((l.take q).map (Value.int .u32))[j]? = some u → w.cell? (Addr.add ⟨g, 0, none⟩ j) = some u := by
  intro j u hu
  rw [List.getElem?_map, List.getElem?_take] at hu
  split at hu
  · cases hl : l[j]? with
    | none => rw [hl] at hu; cases hu
    | some b =>
      rw [hl] at hu
      have hj : j < l.length := (List.getElem?_eq_some_iff.1 hl).1
      have := h j hj
      rw [hl] at this
      rw [← Option.some.inj hu]
      rw [addr_add]
      exact this
  · cases hu
theorem cells_drop {w : World} {g q : Nat} {l : List Int} (h : ∀ j, j < l.length → w.cell? ⟨g, 0 + j, none⟩ = some (.int .u32 (l[j]?.getD 0))) :
    ∀ j u, ((l.drop q).map (Value.int .u32))[j]? = some u → w.cell? (Addr.add ⟨g, q, none⟩ j) = some u := by
  intro j u hu
  rw [List.getElem?_map, List.getElem?_drop] at hu
  cases hl : l[q + j]? with
  | none => rw [hl] at hu; cases hu
  | some b =>
    rw [hl] at hu
    have hj : q + j < l.length := (List.getElem?_eq_some_iff.1 hl).1
    have := h (q + j) hj
    rw [hl, Nat.zero_add] at this
    rw [← Option.some.inj hu]
    rw [addr_add]
    exact this

set_option maxRecDepth 100000 in
set_option maxHeartbeats 4000000 in
theorem raddrs_any (x : Ex) (Ae : Option Addr) (ce : Nat) (Vf Vo : Value) (w : World) (he : Evs w Ae x.evs) :
    Calls Tryz.prog 61 #[.agg #[.slice Ae x.evs.length ce, Vf, Vo]] w fun r w' =>
      ∃ A c, r = .returned (.slice A (addrsOf x.evs).length c) ∧ U32s w' A (addrsOf x.evs) ∧ Below w.heap.size w w' := by
  have hx0 := he.1
  obtain ⟨i0, hi, hz0, hz1, hz2⟩ := info_parts infoU
  go_enter Tryz.func61, Tryz.ntmps61
  go_upto_region 1 with (fail)
  obtain ⟨W0, s0, hW0, hbx, hsz, b0, b1, b2⟩ := box3 w 26 (.slice Ae x.evs.length ce) Vf Vo
  rw [hW0]
  clear hW0
  have he0 := he.below hbx
  clear he b1 b2
  have hend : ∀ s : Fut W0, Below w.heap.size w s.val := fun s => hbx.trans (s.below.mono (Nat.le_of_lt hsz))
  have HEND := Lib.hid hend
  clear hend
  go_wp2
  go_loopw [3, 4] (fun v i wr => ∃ k : Nat, k ≤ x.evs.length ∧ i = .int .i64 k ∧ (∃ s : Fut W0, wr = s.val) ∧ wr.ownsRow W0.heap.size 40 1 v (addrsTo x k).length ((addrsTo x k).map (Value.int .u32)))
    (fun _ i _ => x.evs.length - (intOf i).toNat)
  case atStart => exact ⟨0, Nat.zero_le _, rfl, ⟨s0, rfl⟩, World.ownsRow_nil _ _ _ _⟩
  case round =>
    obtain ⟨k, hk, rfl, ⟨s, rfl⟩, hown⟩ := hrel
    by_cases hlt : k < x.evs.length
    case neg =>
      obtain rfl : k = x.evs.length := by omega
      have hall : addrsTo x x.evs.length = addrsOf x.evs := by simp [addrsTo, addrsOf]
      rw [hall] at hown
      have hln : (addrsOf x.evs).length ≤ x.evs.length := by rw [← hall]; exact addrsTo_len x _ (Nat.le_refl _)
      rcases hown.2 with ⟨rfl, hz⟩ | ⟨gb, cap, cur, rfl, hbase, hgb, r1, r2, r3, r4⟩
      · go_wp2
        go_ret
        exact ⟨none, 0, by rw [hz]; rfl, ⟨by omega, fun h => by omega⟩, HEND.out s⟩
      · clear hgb r1 r2 r3 r4
        have HOWN := Lib.hid hown
        clear hown
        go_wp2
        go_ret
        exact ⟨_, _, rfl, ⟨by omega, fun _ => ⟨gb, 0, rfl, owned_cells HOWN.out⟩⟩, HEND.out s⟩
    obtain ⟨be, oe, rfl, _⟩ := he0.2 (by omega)
    obtain ⟨e, hen⟩ : ∃ e, e = x.evs[k]?.getD zev := ⟨_, rfl⟩
    have hE := he0.at k hlt
    rw [← hen] at hE
    have hst := addrsTo_succ hlt hen
    have hln := addrsTo_len x k hk
    have g1 := s.cell hE.c1
    have g2 := s.cell hE.c2
    clear hen hE
    generalize e.kind = ek at g1 hst
    generalize e.addr = a at g2 hst
    by_cases hk4 : ek = 4
    · subst hk4
      rw [if_pos rfl] at hst
      have HST := Lib.hid hst
      have HOWN := Lib.hid hown
      clear hst hown
      go_wp2
      go_roundw
      case rel => exact ⟨k + 1, by omega, by go_num, ⟨s, rfl⟩, by rw [HST.out]; exact HOWN.out⟩
      case measure => simp [intOf]; omega
    rw [if_neg hk4] at hst
    generalize addrsTo x k = l at hown hst hln
    have HST := Lib.hid hst
    have HOWN := Lib.hid hown
    have hown0 := hown.2
    clear hst hown
    rcases hown0 with ⟨rfl, hz⟩ | ⟨gb, cap, cur, rfl, hbase, hgb, r1, r2, r3, r4⟩
    · obtain rfl := List.eq_nil_of_length_eq_zero hz
      go_wp2
      go_loopw [6] (fun p wr => p = .int .i64 0 ∧ wr = s.val) (fun _ _ => 0)
      case atStart => exact ⟨rfl, rfl⟩
      case round =>
        obtain ⟨rfl, rfl⟩ := hrel
        go_wp2_with (first
          | (at_builtin; refine wpList_append_own _ rfl (.tmp 57) (.tmp 59) 81 rfl s.val.heap.size 40 i0 (.int .u32 0) 1 4 Tryz.underlying81 hi hz0 hz1 hz2 rfl (by decide) (.slice none 0 0) 0 [] rfl (World.ownsRow_nil _ _ _ _) ⟨s.val.heap.size, 0, none⟩ 1 1 [.int .u32 a] rfl rfl (cell_one_new _ _ _) (by simp [Value.oneCell']) (by unfold maxLen; omega) (by omega) (by simp) ?_; intro v' w1 hown1 hgrow _; obtain ⟨g', cap', rfl⟩ := ownsRow_succ hown1)
          | (at_builtin; refine wpList_append_own_none rfl (.tmp 61) (.tmp 64) 81 rfl s.val.heap.size 40 i0 1 Tryz.underlying81 hi _ 1 _ rfl hown1 rfl ?_))
        go_roundw
        case rel =>
          have hb1 : Below s.val.heap.size s.val w1 := grown_below (Nat.le_refl _) (World.ownsRow_nil _ _ 40 1) hgrow
          exact ⟨k + 1, by omega, by go_num, ⟨⟨w1, s.below.trans (hb1.mono s.below.size)⟩, rfl⟩, by rw [HST.out]; exact owned_base hown1 s.below.size⟩
        case measure => simp [intOf]; omega
    · have hgl : gb < s.val.heap.size := (Array.getElem?_eq_some_iff.1 hgb).1
      have hcs : ∀ j, j < l.length → s.val.cell? ⟨gb, 0 + j, none⟩ = some (.int .u32 (l[j]?.getD 0)) := owned_cells HOWN.out
      clear hgb r3 r4
      go_wp2
      go_loopw [6] (fun p wr => ∃ q : Nat, q ≤ l.length ∧ p = .int .i64 q ∧ wr = s.val ∧ ∀ j, j < q → l[j]?.getD 0 < a) (fun p _ => l.length - (intOf p).toNat)
      case atStart => exact ⟨0, Nat.zero_le _, rfl, rfl, fun j hj => by omega⟩
      case round =>
        obtain ⟨q, hq, rfl, rfl, hlow⟩ := hrel
        have HLOW := Lib.hid hlow
        clear hlow
        by_cases hql : q < l.length
        · obtain ⟨b, hb⟩ : ∃ b, l[q]?.getD 0 = b := ⟨_, rfl⟩
          have hcq := hcs q hql
          rw [hb, Nat.zero_add] at hcq
          have HB := Lib.hid hb
          have HCS := Lib.hid hcs
          clear hb hcs
          by_cases hba : b < a
          · go_wp2
            go_roundw
            case rel => exact ⟨q + 1, by omega, by go_num, trivial, fun j hj => by
              by_cases hjq : j = q
              · subst hjq; rw [HB.out]; exact hba
              · exact HLOW.out j (by omega)⟩
            case measure => simp [intOf]; omega
          · by_cases hbe : b = a
            · subst hbe
              go_wp2
              go_roundw
              case rel => exact ⟨k + 1, by omega, by go_num, ⟨s, rfl⟩, by rw [HST.out, ins_at l q hq HLOW.out (fun _ => by rw [HB.out]; omega), if_pos ⟨hql, HB.out⟩]; exact HOWN.out⟩
              case measure => simp [intOf]; omega
            · have hcq : ¬ cap = q := by omega
              have hcq2 : ¬ q = cap := by omega
              go_wp2_with (first
                | (at_builtin; refine wpList_append_own _ rfl _ (.tmp 56) 81 rfl s.val.heap.size 40 i0 (.int .u32 0) 1 4 Tryz.underlying81 hi hz0 hz1 hz2 rfl (by decide) (.slice none 0 0) 0 [] rfl (World.ownsRow_nil _ _ _ _) ⟨gb, 0, none⟩ q _ ((l.take q).map (Value.int .u32)) rfl (by simp; omega) (cells_take HCS.out) (one_u32 _) (by unfold maxLen; omega) (by omega) (by simp) ?_; intro v1 w1 hown1 hgrow1 _
                   rw [Nat.zero_add, List.nil_append] at hown1
                   have hb1 : Below s.val.heap.size s.val w1 := (Below.refl _ _).grown hgrow1 (Nat.le_refl _) (fun k e => by cases e)
                   rcases owned_cases hown1 with rfl | ⟨g1, c1, rfl⟩)
                | (at_builtin; refine wpList_append_own _ rfl (.tmp 57) (.tmp 59) 81 rfl s.val.heap.size 40 i0 (.int .u32 0) 1 4 Tryz.underlying81 hi hz0 hz1 hz2 rfl (by decide) _ q _ rfl (hown1.alloc _) ⟨w1.heap.size, 0, none⟩ 1 1 [.int .u32 a] rfl rfl (cell_one_new _ _ _) (by simp [Value.oneCell']) (by unfold maxLen; omega) (by omega) (by have := hb1.size; simp; omega) ?_; intro v2 w2 hown2 hgrow2 _
                   have hb2 := hb1.trans (grown_below hb1.size hown1 hgrow2)
                   obtain ⟨g2, c2, rfl⟩ := ownsRow_succ hown2)
                | (at_builtin; refine wpList_append_own _ rfl (.tmp 61) (.tmp 64) 81 rfl s.val.heap.size 40 i0 (.int .u32 0) 1 4 Tryz.underlying81 hi hz0 hz1 hz2 rfl (by decide) _ (q + 1) _ rfl hown2 ⟨gb, q, none⟩ (l.length - q) _ ((l.drop q).map (Value.int .u32)) rfl (by simp) (cells_drop fun j hj => (hb2.cell (p := ⟨gb, 0 + j, none⟩) hgl).trans (HCS.out j hj)) (one_u32 _) (by unfold maxLen; omega) (by omega) hb2.size ?_; intro v3 w3 hown3 hgrow3 _
                   have hb3 := hb2.grown hgrow3 hb2.size (fun k e => by cases e; rcases hown2.2 with ⟨h, _⟩ | ⟨g', c', cur', h, hg', _⟩ <;> cases h; exact hg'))
                | (at_builtin; refine wpList_append_own _ rfl (.tmp 61) (.tmp 64) 81 rfl s.val.heap.size 40 i0 (.int .u32 0) 1 4 Tryz.underlying81 hi hz0 hz1 hz2 rfl (by decide) _ (q + 1) _ rfl hown2 ⟨gb, 0, none⟩ (l.length - q) _ ((l.drop q).map (Value.int .u32)) rfl (by simp) (fun j u hu => by rw [List.drop_eq_nil_of_le (by omega)] at hu; cases hu) (one_u32 _) (by unfold maxLen; omega) (by omega) hb2.size ?_; intro v3 w3 hown3 hgrow3 _
                   have hb3 := hb2.grown hgrow3 hb2.size (fun k e => by cases e; rcases hown2.2 with ⟨h, _⟩ | ⟨g', c', cur', h, hg', _⟩ <;> cases h; exact hg')))
              all_goals
                go_roundw
                case rel =>
                  refine ⟨k + 1, by omega, by go_num, ⟨⟨w3, s.below.trans (hb3.mono s.below.size)⟩, rfl⟩, ?_⟩
                  rw [HST.out, ins_at l q hq HLOW.out (fun _ => by rw [HB.out]; omega), if_neg (by rw [HB.out]; omega)]
                  have h3 := owned_base hown3 s.below.size
                  rw [show (l.take q ++ a :: l.drop q).length = q + 1 + (l.length - q) by simp; omega]
                  simpa using h3
                case measure => simp [intOf]; omega
        · have HCS := Lib.hid hcs
          clear hcs
          obtain rfl : q = l.length := by omega
          have hcq3 : cap = l.length ∨ ¬ cap = l.length := by omega
          rcases hcq3 with rfl | hcq
          all_goals go_wp2_with (first
            | (at_builtin; refine wpList_append_own _ rfl _ (.tmp 56) 81 rfl s.val.heap.size 40 i0 (.int .u32 0) 1 4 Tryz.underlying81 hi hz0 hz1 hz2 rfl (by decide) (.slice none 0 0) 0 [] rfl (World.ownsRow_nil _ _ _ _) ⟨gb, 0, none⟩ l.length _ ((l.take l.length).map (Value.int .u32)) rfl (by simp) (cells_take HCS.out) (one_u32 _) (by unfold maxLen; omega) (by omega) (by simp) ?_; intro v1 w1 hown1 hgrow1 _
               rw [Nat.zero_add, List.nil_append] at hown1
               have hb1 : Below s.val.heap.size s.val w1 := (Below.refl _ _).grown hgrow1 (Nat.le_refl _) (fun k e => by cases e)
               rcases owned_cases hown1 with rfl | ⟨g1, c1, rfl⟩)
            | (at_builtin; refine wpList_append_own _ rfl (.tmp 57) (.tmp 59) 81 rfl s.val.heap.size 40 i0 (.int .u32 0) 1 4 Tryz.underlying81 hi hz0 hz1 hz2 rfl (by decide) _ l.length _ rfl (hown1.alloc _) ⟨w1.heap.size, 0, none⟩ 1 1 [.int .u32 a] rfl rfl (cell_one_new _ _ _) (by simp [Value.oneCell']) (by unfold maxLen; omega) (by omega) (by have := hb1.size; simp; omega) ?_; intro v2 w2 hown2 hgrow2 _
               have hb2 := hb1.trans (grown_below hb1.size hown1 hgrow2)
               obtain ⟨g2, c2, rfl⟩ := ownsRow_succ hown2)
            | (at_builtin; refine wpList_append_own _ rfl (.tmp 61) (.tmp 64) 81 rfl s.val.heap.size 40 i0 (.int .u32 0) 1 4 Tryz.underlying81 hi hz0 hz1 hz2 rfl (by decide) _ (l.length + 1) _ rfl hown2 ⟨gb, 0, none⟩ 0 _ [] rfl (by simp) (fun j u hu => by cases hu) (by simp) (by unfold maxLen; omega) (by omega) hb2.size ?_; intro v3 w3 hown3 hgrow3 _
               have hb3 := hb2.grown hgrow3 hb2.size (fun k e => by cases e; rcases hown2.2 with ⟨h, _⟩ | ⟨g', c', cur', h, hg', _⟩ <;> cases h; exact hg'))
            | (at_builtin; refine wpList_append_own _ rfl (.tmp 61) (.tmp 64) 81 rfl s.val.heap.size 40 i0 (.int .u32 0) 1 4 Tryz.underlying81 hi hz0 hz1 hz2 rfl (by decide) _ (l.length + 1) _ rfl hown2 ⟨gb, l.length, none⟩ 0 _ [] rfl (by simp) (fun j u hu => by cases hu) (by simp) (by unfold maxLen; omega) (by omega) hb2.size ?_; intro v3 w3 hown3 hgrow3 _
               have hb3 := hb2.grown hgrow3 hb2.size (fun k e => by cases e; rcases hown2.2 with ⟨h, _⟩ | ⟨g', c', cur', h, hg', _⟩ <;> cases h; exact hg')))
          all_goals
            go_roundw
            case rel =>
              refine ⟨k + 1, by omega, by go_num, ⟨⟨w3, s.below.trans (hb3.mono s.below.size)⟩, rfl⟩, ?_⟩
              rw [HST.out, ins_at l l.length (Nat.le_refl _) HLOW.out (fun h => by omega), if_neg (by omega)]
              have h3 := owned_base hown3 s.below.size
              simpa using h3
            case measure => simp [intOf]; omega
end Go.Proofs.YtacnbdnmkmpldaaGreat
