/- Printed contracts, thinned to what the texts of this claim use. Conditions: none. -/
import Derived.Test.YtgnhlaonckognaaPBackLevelsx0
namespace Go.Proofs.Ytgnhlaonckognaa.PBackLevels
open Go.RowKit Go.Proofs.YtgnhlaonckognaaW.PrintWords Go.Proofs.YtgnhlaonckognaaW.PrintLast Go.Proofs.YtgnhlaonckognaaW.PrintMore
attribute [local go_sem] max2_int min2_int max_two min_two max_three min_three max_four min_four
set_option linter.unusedVariables false
set_option linter.unusedSimpArgs false
mutual
def tape_fits.j0 : Nat → Int → Bool → Int → Int → Int → List Int → Option (Bool)
  | 0, _, _, _, _, _, _ => none
  | k + 1, x1, x38, x164000, x164001, x164002, x164003 => if x38 = true then (some false) else (if (x164003.length : Int) > 100000 then (tape_fits.j1 k x1 true x164000 x164001 x164002 x164003) else (if (x164003.length : Int) = 0 then (if x164002 = 0 then (if (x164003.length : Int) > 0 then (if 0 < (x164003.length : Int) then (if (rd x164003 0) = 0 then (tape_fits.j1 k x1 true x164000 x164001 x164002 x164003) else (if 0 ≤ (wrap64 ((x164003.length : Int) - 1)) then (if (wrap64 ((x164003.length : Int) - 1)) < (x164003.length : Int) then (tape_fits.j1 k x1 ((rd x164003 (wrap64 ((x164003.length : Int) - 1))) == 0) x164000 x164001 x164002 x164003) else (none)) else (none))) else (none)) else (tape_fits.j1 k x1 false x164000 x164001 x164002 x164003)) else (tape_fits.j1 k x1 true x164000 x164001 x164002 x164003)) else (if (x164003.length : Int) > 0 then (if 0 < (x164003.length : Int) then (if (rd x164003 0) = 0 then (tape_fits.j1 k x1 true x164000 x164001 x164002 x164003) else (if 0 ≤ (wrap64 ((x164003.length : Int) - 1)) then (if (wrap64 ((x164003.length : Int) - 1)) < (x164003.length : Int) then (tape_fits.j1 k x1 ((rd x164003 (wrap64 ((x164003.length : Int) - 1))) == 0) x164000 x164001 x164002 x164003) else (none)) else (none))) else (none)) else (tape_fits.j1 k x1 false x164000 x164001 x164002 x164003))))
def tape_fits.j1 : Nat → Int → Bool → Int → Int → Int → List Int → Option (Bool)
  | 0, _, _, _, _, _, _ => none
  | k + 1, x1, x72, x164000, x164001, x164002, x164003 => if x72 = true then (some false) else (tape_fits.l0 k x1 x164003 (x164003.length : Int) 0)
def tape_fits.l0 : Nat → Int → List Int → Int → Int → Option (Bool)
  | 0, _, _, _, _ => none
  | k + 1, x1, x74, x75, x76 => if x76 < x75 then (if 0 ≤ x76 then (if x76 < (x74.length : Int) then (if (rd x74 x76) < 0 then (some false) else (if (rd x74 x76) ≥ x1 then (some false) else (tape_fits.l0 k x1 x74 x75 (wrap64 (x76 + 1))))) else (none)) else (none)) else (some true)
end
def tape_fits.f (k : Nat) (a0 : Int) (a1 : Int) (a2_0 : Int) (a2_1 : Int) (a2_2 : Int) (l2_3 : List Int) : Option (Bool) := if a2_0 < (-1) then (tape_fits.j0 k a1 true a2_0 a2_1 a2_2 l2_3) else (if a2_0 ≥ a0 then (tape_fits.j0 k a1 true a2_0 a2_1 a2_2 l2_3) else (if a2_1 < (-1099511627776) then (tape_fits.j0 k a1 true a2_0 a2_1 a2_2 l2_3) else (if a2_1 > 1099511627776 then (tape_fits.j0 k a1 true a2_0 a2_1 a2_2 l2_3) else (if a2_2 < (-1099511627776) then (tape_fits.j0 k a1 true a2_0 a2_1 a2_2 l2_3) else (tape_fits.j0 k a1 (decide (a2_2 > 1099511627776)) a2_0 a2_1 a2_2 l2_3)))))
set_option maxHeartbeats 8000000 in
set_option maxRecDepth 100000 in
theorem tape_fits.calls (k : Nat) (a0 : Int) (a1 : Int) (a2_0 : Int) (a2_1 : Int) (a2_2 : Int) (A2_3 : Option Addr) (c2_3 : Nat) (l2_3 : List Int) (r : Bool) (w : World) (hr2_3 : Kd.C (Kd.int .i64) w A2_3 l2_3.length l2_3) (hc2_3 : l2_3.length ≤ c2_3) (h : tape_fits.f k a0 a1 a2_0 a2_1 a2_2 l2_3 = some r) :
    Calls Try.prog 73 #[.int .i64 a0, .int .i64 a1, .agg #[.int .i64 a2_0, .int .i64 a2_1, .int .i64 a2_2, .slice A2_3 l2_3.length c2_3]] w fun e w' => e = .returned (.bool r) ∧ Below w.heap.size w w' := by
  have hu69 := Try.underlying69
  have HR2_3 := Aside0.mk hr2_3
  have HC2_3 := Aside0.mk hc2_3
  clear hr2_3 hc2_3
  have HB := Aside0.mk (Below.refl w.heap.size w)
  have H : (if a2_0 < (-1) then (tape_fits.j0 k a1 true a2_0 a2_1 a2_2 l2_3) else (if a2_0 ≥ a0 then (tape_fits.j0 k a1 true a2_0 a2_1 a2_2 l2_3) else (if a2_1 < (-1099511627776) then (tape_fits.j0 k a1 true a2_0 a2_1 a2_2 l2_3) else (if a2_1 > 1099511627776 then (tape_fits.j0 k a1 true a2_0 a2_1 a2_2 l2_3) else (if a2_2 < (-1099511627776) then (tape_fits.j0 k a1 true a2_0 a2_1 a2_2 l2_3) else (tape_fits.j0 k a1 (decide (a2_2 > 1099511627776)) a2_0 a2_1 a2_2 l2_3)))))) = some r := h
  clear h
  have HC4 := Aside0.mk H
  clear H
  go_enter Try.func73, Try.ntmps73
  go_upto_region 1 with (first | ((with_reducible refine gate_dst (N := 5) rfl ?_); refine box_event ?hg (N := 5) ?hd (cs := #[.int .i64 a2_0, .int .i64 a2_1, .int .i64 a2_2, .slice A2_3 l2_3.length c2_3]) (t := 69) ?hr ?_; (case hd => rfl); (case hg => rfl); (case hr => first | (go_simp; done) | (go_simp; rfl)); intro gb163 hg w5 hbox hb; have n0_ := Aside0.mk (below_step (by repeat (first | (with_reducible first | exact HB.out | apply below_alloc | apply pw_below_drewN | apply below_drew1) | exact HB.out)) hb); have n1_ := Aside0.mk (hbox); have n2_ := Aside0.mk ((by rw [hg]; exact (below_size (by repeat (first | (with_reducible first | exact HB.out | apply below_alloc | apply pw_below_drewN | apply below_drew1) | exact HB.out))) : w.heap.size ≤ gb163)); have n3_ := Aside0.mk ((by rw [hg]; exact (below_size (by repeat (first | (with_reducible first | exact HB.out | apply below_alloc | apply pw_below_drewN | apply below_drew1) | exact HB.out))) : w.heap.size ≤ gb163)); clear HB; have HB := n0_; have BK163 := n1_; have GW163 := n2_; have GE163 := n3_; clear n0_ n1_ n2_ n3_; clear hb hbox hg))
  (try simp only [Act.put, List.setIfInBounds_toArray, List.set_cons_zero, List.set_cons_succ])
  go_cut [38] (fun v38 wc => ∃ (kq : Nat) (x38_3 : Bool), v38 = .bool x38_3 ∧ Aside0 (tape_fits.j0 kq a1 x38_3 a2_0 a2_1 a2_2 l2_3 = some r) ∧ Aside0 (kq ≤ k) ∧ Aside0 (wc.heap[gb163]? = some (.cells #[.int .i64 a2_0, .int .i64 a2_1, .int .i64 a2_2, (.slice A2_3 l2_3.length c2_3)] 69 (0, 0))) ∧ Aside0 (Below w.heap.size w wc))
  case first =>
    have H := HC4.out
    clear HC4
    by_cases c6 : a2_0 < (-1)
    · rw [if_pos c6] at H
      have c6b0 : decide (a2_0 < (-1)) = true := decide_eq_true c6
      clear c6
      (first | rw [c6b0] | (simp only [i64_w, i32_w]; rw [c6b0]) | skip)
      have H' := Aside0.mk H
      clear H
      have hcz7_0 : w5.cell? ⟨gb163, 0, none⟩ = some (.int .i64 a2_0) := (blk_cell BK163.out 0).trans rfl
      have hcz7_1 : w5.cell? ⟨gb163, 1, none⟩ = some (.int .i64 a2_1) := (blk_cell BK163.out 1).trans rfl
      have hcz7_2 : w5.cell? ⟨gb163, 2, none⟩ = some (.int .i64 a2_2) := (blk_cell BK163.out 2).trans rfl
      have hcz7_3 : w5.cell? ⟨gb163, 3, none⟩ = some (.slice A2_3 l2_3.length c2_3) := (blk_cell BK163.out 3).trans rfl
      have hfz7_0 := blk_frozen BK163.out 0
      have hfz7_1 := blk_frozen BK163.out 1
      have hfz7_2 := blk_frozen BK163.out 2
      have hfz7_3 := blk_frozen BK163.out 3
      go_wp2
      go_meet
      case rel => exact ⟨_, (true), (by first | rfl | (simp; done) | (simp [*]; done)), H', ⟨by first | omega | exact Nat.le_refl _⟩, ⟨by (with_reducible repeat (first | refine blk_drewN ?_ _ | refine blk_drew ?_ | refine blk_alloc ?_ _)); exact BK163.out⟩, ⟨by repeat (first | (with_reducible first | exact HB.out | apply below_alloc | apply pw_below_drewN | apply below_drew1 | refine below_set ?_ GE163.out) | exact HB.out)⟩⟩
    · rw [if_neg c6] at H
      have c6b0 : decide (a2_0 < (-1)) = false := decide_eq_false c6
      clear c6
      (first | rw [c6b0] | (simp only [i64_w, i32_w]; rw [c6b0]) | skip)
      by_cases c8 : a2_0 ≥ a0
      · rw [if_pos c8] at H
        have c8b0 : decide (a0 ≤ a2_0) = true := decide_eq_true c8
        clear c8
        have H' := Aside0.mk H
        clear H
        have hcz9_0 : w5.cell? ⟨gb163, 0, none⟩ = some (.int .i64 a2_0) := (blk_cell BK163.out 0).trans rfl
        have hcz9_1 : w5.cell? ⟨gb163, 1, none⟩ = some (.int .i64 a2_1) := (blk_cell BK163.out 1).trans rfl
        have hcz9_2 : w5.cell? ⟨gb163, 2, none⟩ = some (.int .i64 a2_2) := (blk_cell BK163.out 2).trans rfl
        have hcz9_3 : w5.cell? ⟨gb163, 3, none⟩ = some (.slice A2_3 l2_3.length c2_3) := (blk_cell BK163.out 3).trans rfl
        have hfz9_0 := blk_frozen BK163.out 0
        have hfz9_1 := blk_frozen BK163.out 1
        have hfz9_2 := blk_frozen BK163.out 2
        have hfz9_3 := blk_frozen BK163.out 3
        go_wp2
        go_meet
        case rel => exact ⟨_, (true), (by first | rfl | (simp; done) | (simp [*]; done)), H', ⟨by first | omega | exact Nat.le_refl _⟩, ⟨by (with_reducible repeat (first | refine blk_drewN ?_ _ | refine blk_drew ?_ | refine blk_alloc ?_ _)); exact BK163.out⟩, ⟨by repeat (first | (with_reducible first | exact HB.out | apply below_alloc | apply pw_below_drewN | apply below_drew1 | refine below_set ?_ GE163.out) | exact HB.out)⟩⟩
      · rw [if_neg c8] at H
        have c8b0 : decide (a0 ≤ a2_0) = false := decide_eq_false c8
        clear c8
        by_cases c10 : a2_1 < (-1099511627776)
        · rw [if_pos c10] at H
          have c10b0 : decide (a2_1 < (-1099511627776)) = true := decide_eq_true c10
          clear c10
          have H' := Aside0.mk H
          clear H
          have hcz11_0 : w5.cell? ⟨gb163, 0, none⟩ = some (.int .i64 a2_0) := (blk_cell BK163.out 0).trans rfl
          have hcz11_1 : w5.cell? ⟨gb163, 1, none⟩ = some (.int .i64 a2_1) := (blk_cell BK163.out 1).trans rfl
          have hcz11_2 : w5.cell? ⟨gb163, 2, none⟩ = some (.int .i64 a2_2) := (blk_cell BK163.out 2).trans rfl
          have hcz11_3 : w5.cell? ⟨gb163, 3, none⟩ = some (.slice A2_3 l2_3.length c2_3) := (blk_cell BK163.out 3).trans rfl
          have hfz11_0 := blk_frozen BK163.out 0
          have hfz11_1 := blk_frozen BK163.out 1
          have hfz11_2 := blk_frozen BK163.out 2
          have hfz11_3 := blk_frozen BK163.out 3
          go_wp2
          go_meet
          case rel => exact ⟨_, (true), (by first | rfl | (simp; done) | (simp [*]; done)), H', ⟨by first | omega | exact Nat.le_refl _⟩, ⟨by (with_reducible repeat (first | refine blk_drewN ?_ _ | refine blk_drew ?_ | refine blk_alloc ?_ _)); exact BK163.out⟩, ⟨by repeat (first | (with_reducible first | exact HB.out | apply below_alloc | apply pw_below_drewN | apply below_drew1 | refine below_set ?_ GE163.out) | exact HB.out)⟩⟩
        · rw [if_neg c10] at H
          have c10b0 : decide (a2_1 < (-1099511627776)) = false := decide_eq_false c10
          clear c10
          by_cases c12 : a2_1 > 1099511627776
          · rw [if_pos c12] at H
            have c12b0 : decide (1099511627776 < a2_1) = true := decide_eq_true c12
            clear c12
            have H' := Aside0.mk H
            clear H
            have hcz13_0 : w5.cell? ⟨gb163, 0, none⟩ = some (.int .i64 a2_0) := (blk_cell BK163.out 0).trans rfl
            have hcz13_1 : w5.cell? ⟨gb163, 1, none⟩ = some (.int .i64 a2_1) := (blk_cell BK163.out 1).trans rfl
            have hcz13_2 : w5.cell? ⟨gb163, 2, none⟩ = some (.int .i64 a2_2) := (blk_cell BK163.out 2).trans rfl
            have hcz13_3 : w5.cell? ⟨gb163, 3, none⟩ = some (.slice A2_3 l2_3.length c2_3) := (blk_cell BK163.out 3).trans rfl
            have hfz13_0 := blk_frozen BK163.out 0
            have hfz13_1 := blk_frozen BK163.out 1
            have hfz13_2 := blk_frozen BK163.out 2
            have hfz13_3 := blk_frozen BK163.out 3
            go_wp2
            go_meet
            case rel => exact ⟨_, (true), (by first | rfl | (simp; done) | (simp [*]; done)), H', ⟨by first | omega | exact Nat.le_refl _⟩, ⟨by (with_reducible repeat (first | refine blk_drewN ?_ _ | refine blk_drew ?_ | refine blk_alloc ?_ _)); exact BK163.out⟩, ⟨by repeat (first | (with_reducible first | exact HB.out | apply below_alloc | apply pw_below_drewN | apply below_drew1 | refine below_set ?_ GE163.out) | exact HB.out)⟩⟩
          · rw [if_neg c12] at H
            have c12b0 : decide (1099511627776 < a2_1) = false := decide_eq_false c12
            clear c12
            by_cases c14 : a2_2 < (-1099511627776)
            · rw [if_pos c14] at H
              have c14b0 : decide (a2_2 < (-1099511627776)) = true := decide_eq_true c14
              clear c14
              have H' := Aside0.mk H
              clear H
              have hcz15_0 : w5.cell? ⟨gb163, 0, none⟩ = some (.int .i64 a2_0) := (blk_cell BK163.out 0).trans rfl
              have hcz15_1 : w5.cell? ⟨gb163, 1, none⟩ = some (.int .i64 a2_1) := (blk_cell BK163.out 1).trans rfl
              have hcz15_2 : w5.cell? ⟨gb163, 2, none⟩ = some (.int .i64 a2_2) := (blk_cell BK163.out 2).trans rfl
              have hcz15_3 : w5.cell? ⟨gb163, 3, none⟩ = some (.slice A2_3 l2_3.length c2_3) := (blk_cell BK163.out 3).trans rfl
              have hfz15_0 := blk_frozen BK163.out 0
              have hfz15_1 := blk_frozen BK163.out 1
              have hfz15_2 := blk_frozen BK163.out 2
              have hfz15_3 := blk_frozen BK163.out 3
              go_wp2
              go_meet
              case rel => exact ⟨_, (true), (by first | rfl | (simp; done) | (simp [*]; done)), H', ⟨by first | omega | exact Nat.le_refl _⟩, ⟨by (with_reducible repeat (first | refine blk_drewN ?_ _ | refine blk_drew ?_ | refine blk_alloc ?_ _)); exact BK163.out⟩, ⟨by repeat (first | (with_reducible first | exact HB.out | apply below_alloc | apply pw_below_drewN | apply below_drew1 | refine below_set ?_ GE163.out) | exact HB.out)⟩⟩
            · rw [if_neg c14] at H
              have c14b0 : decide (a2_2 < (-1099511627776)) = false := decide_eq_false c14
              clear c14
              have H' := Aside0.mk H
              clear H
              have hcz16_0 : w5.cell? ⟨gb163, 0, none⟩ = some (.int .i64 a2_0) := (blk_cell BK163.out 0).trans rfl
              have hcz16_1 : w5.cell? ⟨gb163, 1, none⟩ = some (.int .i64 a2_1) := (blk_cell BK163.out 1).trans rfl
              have hcz16_2 : w5.cell? ⟨gb163, 2, none⟩ = some (.int .i64 a2_2) := (blk_cell BK163.out 2).trans rfl
              have hcz16_3 : w5.cell? ⟨gb163, 3, none⟩ = some (.slice A2_3 l2_3.length c2_3) := (blk_cell BK163.out 3).trans rfl
              have hfz16_0 := blk_frozen BK163.out 0
              have hfz16_1 := blk_frozen BK163.out 1
              have hfz16_2 := blk_frozen BK163.out 2
              have hfz16_3 := blk_frozen BK163.out 3
              go_wp2
              go_meet
              case rel => exact ⟨_, (decide (a2_2 > 1099511627776)), (by first | rfl | (simp; done) | (simp [*]; done)), H', ⟨by first | omega | exact Nat.le_refl _⟩, ⟨by (with_reducible repeat (first | refine blk_drewN ?_ _ | refine blk_drew ?_ | refine blk_alloc ?_ _)); exact BK163.out⟩, ⟨by repeat (first | (with_reducible first | exact HB.out | apply below_alloc | apply pw_below_drewN | apply below_drew1 | refine below_set ?_ GE163.out) | exact HB.out)⟩⟩
  case rest =>
    clear HC4
    try clear c1
    try clear c2
    try clear p2
    try clear c6
    try clear c6b0
    try clear c7
    try clear c8
    try clear c8b0
    try clear c10
    try clear c10b0
    try clear c12
    try clear c12b0
    try clear c14
    try clear c14b0
    try clear hcz11_0
    try clear hcz11_1
    try clear hcz11_2
    try clear hcz11_3
    try clear hcz13_0
    try clear hcz13_1
    try clear hcz13_2
    try clear hcz13_3
    try clear hcz15_0
    try clear hcz15_1
    try clear hcz15_2
    try clear hcz15_3
    try clear hcz16_0
    try clear hcz16_1
    try clear hcz16_2
    try clear hcz16_3
    try clear hcz7_0
    try clear hcz7_1
    try clear hcz7_2
    try clear hcz7_3
    try clear hcz9_0
    try clear hcz9_1
    try clear hcz9_2
    try clear hcz9_3
    try clear hfz11_0
    try clear hfz11_1
    try clear hfz11_2
    try clear hfz11_3
    try clear hfz13_0
    try clear hfz13_1
    try clear hfz13_2
    try clear hfz13_3
    try clear hfz15_0
    try clear hfz15_1
    try clear hfz15_2
    try clear hfz15_3
    try clear hfz16_0
    try clear hfz16_1
    try clear hfz16_2
    try clear hfz16_3
    try clear hfz7_0
    try clear hfz7_1
    try clear hfz7_2
    try clear hfz7_3
    try clear hfz9_0
    try clear hfz9_1
    try clear hfz9_2
    try clear hfz9_3
    obtain ⟨kq, x38_3, rfl, HA, HJ3, BK163, HB⟩ := hcut
    cases kq with
    | zero => exact absurd HA.out (by simp [tape_fits.j0])
    | succ kj3 =>
      have H := HA.out
      clear HA
      simp only [tape_fits.j0] at H
      by_cases c17 : x38_3 = true
      · subst c17
        have H1 : (some false) = some r := by rw [if_pos rfl] at H; exact H
        clear H
        have H := H1
        clear H1
        obtain rfl := Option.some.inj H
        go_wp2
        go_ret
        exact ⟨by first | rfl | (simp [errW_none, errW_some] <;> rfl) | (simp [*, errW_none, errW_some] <;> rfl), by repeat (first | (with_reducible first | exact HB.out | apply below_alloc | apply pw_below_drewN | apply below_drew1 | refine below_set ?_ GE163.out) | exact HB.out)⟩
      · replace c17 := Bool.eq_false_iff.mpr c17
        subst c17
        have H1 : (if (l2_3.length : Int) > 100000 then (tape_fits.j1 kj3 a1 true a2_0 a2_1 a2_2 l2_3) else (if (l2_3.length : Int) = 0 then (if a2_2 = 0 then (if (l2_3.length : Int) > 0 then (if 0 < (l2_3.length : Int) then (if (rd l2_3 0) = 0 then (tape_fits.j1 kj3 a1 true a2_0 a2_1 a2_2 l2_3) else (if 0 ≤ (wrap64 ((l2_3.length : Int) - 1)) then (if (wrap64 ((l2_3.length : Int) - 1)) < (l2_3.length : Int) then (tape_fits.j1 kj3 a1 ((rd l2_3 (wrap64 ((l2_3.length : Int) - 1))) == 0) a2_0 a2_1 a2_2 l2_3) else (none)) else (none))) else (none)) else (tape_fits.j1 kj3 a1 false a2_0 a2_1 a2_2 l2_3)) else (tape_fits.j1 kj3 a1 true a2_0 a2_1 a2_2 l2_3)) else (if (l2_3.length : Int) > 0 then (if 0 < (l2_3.length : Int) then (if (rd l2_3 0) = 0 then (tape_fits.j1 kj3 a1 true a2_0 a2_1 a2_2 l2_3) else (if 0 ≤ (wrap64 ((l2_3.length : Int) - 1)) then (if (wrap64 ((l2_3.length : Int) - 1)) < (l2_3.length : Int) then (tape_fits.j1 kj3 a1 ((rd l2_3 (wrap64 ((l2_3.length : Int) - 1))) == 0) a2_0 a2_1 a2_2 l2_3) else (none)) else (none))) else (none)) else (tape_fits.j1 kj3 a1 false a2_0 a2_1 a2_2 l2_3)))) = some r := by rw [if_neg (show ¬ (false = true) by decide)] at H; exact H
        clear H
        have H := H1
        clear H1
        have HC18 := Aside0.mk H
        clear H
        have hcz19_0 : wc.cell? ⟨gb163, 0, none⟩ = some (.int .i64 a2_0) := (blk_cell BK163.out 0).trans rfl
        have hcz19_1 : wc.cell? ⟨gb163, 1, none⟩ = some (.int .i64 a2_1) := (blk_cell BK163.out 1).trans rfl
        have hcz19_2 : wc.cell? ⟨gb163, 2, none⟩ = some (.int .i64 a2_2) := (blk_cell BK163.out 2).trans rfl
        have hcz19_3 : wc.cell? ⟨gb163, 3, none⟩ = some (.slice A2_3 l2_3.length c2_3) := (blk_cell BK163.out 3).trans rfl
        have hfz19_0 := blk_frozen BK163.out 0
        have hfz19_1 := blk_frozen BK163.out 1
        have hfz19_2 := blk_frozen BK163.out 2
        have hfz19_3 := blk_frozen BK163.out 3
        go_upto_region 4 with (fail)
        go_cut [72] (fun v72 wc => ∃ (kq : Nat) (x72_17 : Bool), v72 = .bool x72_17 ∧ Aside0 (tape_fits.j1 kq a1 x72_17 a2_0 a2_1 a2_2 l2_3 = some r) ∧ Aside0 (kq ≤ kj3) ∧ Aside0 (wc.heap[gb163]? = some (.cells #[.int .i64 a2_0, .int .i64 a2_1, .int .i64 a2_2, (.slice A2_3 l2_3.length c2_3)] 69 (0, 0))) ∧ Aside0 (Below w.heap.size w wc))
        case first =>
          have H := HC18.out
          clear HC18
          by_cases c20 : (l2_3.length : Int) > 100000
          · rw [if_pos c20] at H
            have c20b0 : decide (100000 < (l2_3.length : Int)) = true := decide_eq_true c20
            have c20b1 : decide (100000 < l2_3.length) = true := decide_eq_true (by omega)
            clear c20
            (first | rw [c20b0] | (simp only [i64_w, i32_w]; rw [c20b0]) | skip)
            have H' := Aside0.mk H
            clear H
            go_wp2
            go_meet
            case rel => exact ⟨_, (true), (by first | rfl | (simp; done) | (simp [*]; done)), H', ⟨by have := HJ3.out; first | omega | exact Nat.le_refl _⟩, ⟨by (with_reducible repeat (first | refine blk_drewN ?_ _ | refine blk_drew ?_ | refine blk_alloc ?_ _)); exact BK163.out⟩, ⟨by repeat (first | (with_reducible first | exact HB.out | apply below_alloc | apply pw_below_drewN | apply below_drew1 | refine below_set ?_ GE163.out) | exact HB.out)⟩⟩
          · rw [if_neg c20] at H
            have c20b0 : decide (100000 < (l2_3.length : Int)) = false := decide_eq_false c20
            have c20b1 : decide (100000 < l2_3.length) = false := decide_eq_false (by omega)
            clear c20
            (first | rw [c20b0] | (simp only [i64_w, i32_w]; rw [c20b0]) | skip)
            by_cases c21 : (l2_3.length : Int) = 0
            · rw [if_pos c21] at H
              have c21b0 : ((l2_3.length : Int) == 0) = true := beq_iff_eq.mpr c21
              have c21b1 : ((l2_3.length : Int) != 0) = false := bne_eq_false_iff_eq.mpr c21
              clear c21
              by_cases c22 : a2_2 = 0
              · rw [if_pos c22] at H
                have c22b0 : (a2_2 == 0) = true := beq_iff_eq.mpr c22
                have c22b1 : (a2_2 != 0) = false := bne_eq_false_iff_eq.mpr c22
                clear c22
                by_cases c23 : (l2_3.length : Int) > 0
                · rw [if_pos c23] at H
                  have c23b0 : decide (0 < (l2_3.length : Int)) = true := decide_eq_true c23
                  have c23b1 : decide (0 < l2_3.length) = true := decide_eq_true (by omega)
                  clear c23
                  by_cases c24 : 0 < (l2_3.length : Int)
                  · rw [if_pos c24] at H
                    have c24b0 : decide (0 < (l2_3.length : Int)) = true := decide_eq_true c24
                    have c24b1 : decide (0 < l2_3.length) = true := decide_eq_true (by omega)
                    clear c24
                    by_cases c25 : (rd l2_3 0) = 0
                    · rw [if_pos c25] at H
                      have c25b0 : ((rd l2_3 0) == 0) = true := beq_iff_eq.mpr c25
                      have c25b1 : ((rd l2_3 0) != 0) = false := bne_eq_false_iff_eq.mpr c25
                      clear c25
                      have H' := Aside0.mk H
                      clear H
                      have hcz26_0 : wc.cell? ⟨gb163, 0, none⟩ = some (.int .i64 a2_0) := (blk_cell BK163.out 0).trans rfl
                      have hcz26_1 : wc.cell? ⟨gb163, 1, none⟩ = some (.int .i64 a2_1) := (blk_cell BK163.out 1).trans rfl
                      have hcz26_2 : wc.cell? ⟨gb163, 2, none⟩ = some (.int .i64 a2_2) := (blk_cell BK163.out 2).trans rfl
                      have hcz26_3 : wc.cell? ⟨gb163, 3, none⟩ = some (.slice A2_3 l2_3.length c2_3) := (blk_cell BK163.out 3).trans rfl
                      have hfz26_0 := blk_frozen BK163.out 0
                      have hfz26_1 := blk_frozen BK163.out 1
                      have hfz26_2 := blk_frozen BK163.out 2
                      have hfz26_3 := blk_frozen BK163.out 3
                      have p164 : 0 ≤ (0 : Int) := (by omega)
                      have q164 : 0 < (l2_3.length : Int) := of_decide_eq_true (by first | (with_reducible assumption) | assumption)
                      obtain ⟨ad164, e164, hx164_0⟩ := Kd.at_int HR2_3.out 0 p164 q164
                      cases e164
                      have qi164 : (0 < l2_3.length) = True := eq_true (by omega)
                      (try rw [show ((0 : Int)).toNat = 0 from rfl] at hx164_0)
                      (try rw [Addr.add_zero'] at hx164_0)
                      replace hx164_0 := (HB.out.cell (World.block_lt_of_cell? w _ hx164_0)).trans hx164_0
                      replace p164 := eq_true p164
                      replace q164 := eq_true q164
                      go_wp2
                      go_meet
                      case rel => exact ⟨_, (true), (by first | rfl | (simp; done) | (simp [*]; done)), H', ⟨by have := HJ3.out; first | omega | exact Nat.le_refl _⟩, ⟨by (with_reducible repeat (first | refine blk_drewN ?_ _ | refine blk_drew ?_ | refine blk_alloc ?_ _)); exact BK163.out⟩, ⟨by repeat (first | (with_reducible first | exact HB.out | apply below_alloc | apply pw_below_drewN | apply below_drew1 | refine below_set ?_ GE163.out) | exact HB.out)⟩⟩
                    · rw [if_neg c25] at H
                      have c25b0 : ((rd l2_3 0) == 0) = false := beq_eq_false_iff_ne.mpr c25
                      have c25b1 : ((rd l2_3 0) != 0) = true := bne_iff_ne.mpr c25
                      obtain ⟨ji27, hji27⟩ : ∃ j_ : Int, (wrap64 ((l2_3.length : Int) - 1)) = j_ := ⟨_, rfl⟩
                      replace H : (if 0 ≤ (ji27) then (if (ji27) < (l2_3.length : Int) then (tape_fits.j1 kj3 a1 ((rd l2_3 (ji27)) == 0) a2_0 a2_1 a2_2 l2_3) else (none)) else (none)) = some r := by first | (rw [hji27] at H; exact H) | (simp only [hji27] at H ⊢; exact H)
                      have hji27w : (IntKind.i64.wrap ((l2_3.length : Int) - 1)) = ji27 := (i64_w _).trans hji27
                      by_cases c28 : 0 ≤ (ji27)
                      · rw [if_pos c28] at H
                        have c28b0 : decide (0 ≤ (ji27)) = true := decide_eq_true c28
                        clear c28
                        by_cases c29 : (ji27) < (l2_3.length : Int)
                        · rw [if_pos c29] at H
                          have c29b0 : decide ((ji27) < (l2_3.length : Int)) = true := decide_eq_true c29
                          clear c29
                          have H' := Aside0.mk H
                          clear H
                          have hcz30_0 : wc.cell? ⟨gb163, 0, none⟩ = some (.int .i64 a2_0) := (blk_cell BK163.out 0).trans rfl
                          have hcz30_1 : wc.cell? ⟨gb163, 1, none⟩ = some (.int .i64 a2_1) := (blk_cell BK163.out 1).trans rfl
                          have hcz30_2 : wc.cell? ⟨gb163, 2, none⟩ = some (.int .i64 a2_2) := (blk_cell BK163.out 2).trans rfl
                          have hcz30_3 : wc.cell? ⟨gb163, 3, none⟩ = some (.slice A2_3 l2_3.length c2_3) := (blk_cell BK163.out 3).trans rfl
                          have hfz30_0 := blk_frozen BK163.out 0
                          have hfz30_1 := blk_frozen BK163.out 1
                          have hfz30_2 := blk_frozen BK163.out 2
                          have hfz30_3 := blk_frozen BK163.out 3
                          have p164 : 0 ≤ (0 : Int) := (by omega)
                          have q164 : 0 < (l2_3.length : Int) := of_decide_eq_true (by first | (with_reducible assumption) | assumption)
                          obtain ⟨ad164, e164, hx164_0⟩ := Kd.at_int HR2_3.out 0 p164 q164
                          cases e164
                          have qi164 : (0 < l2_3.length) = True := eq_true (by omega)
                          (try rw [show ((0 : Int)).toNat = 0 from rfl] at hx164_0)
                          (try rw [Addr.add_zero'] at hx164_0)
                          replace hx164_0 := (HB.out.cell (World.block_lt_of_cell? w _ hx164_0)).trans hx164_0
                          replace p164 := eq_true p164
                          replace q164 := eq_true q164
                          have p165 : 0 ≤ ((ji27) : Int) := of_decide_eq_true (by first | (with_reducible assumption) | assumption)
                          have q165 : (ji27) < (l2_3.length : Int) := of_decide_eq_true (by first | (with_reducible assumption) | assumption)
                          obtain ⟨ad165, e165, hx165_0⟩ := Kd.at_int HR2_3.out (ji27) p165 q165
                          obtain rfl : ad164 = ad165 := (by injection e165)
                          replace hx165_0 := (HB.out.cell (World.block_lt_of_cell? w _ hx165_0)).trans hx165_0
                          replace p165 := eq_true p165
                          replace q165 := eq_true q165
                          go_wp2
                          go_meet
                          case rel => exact ⟨_, (((rd l2_3 (ji27)) == 0)), (by first | rfl | (simp; done) | (simp only [← hji27] <;> (first | rfl | simp)) | (simp [*]; done)), H', ⟨by have := HJ3.out; first | omega | exact Nat.le_refl _⟩, ⟨by (with_reducible repeat (first | refine blk_drewN ?_ _ | refine blk_drew ?_ | refine blk_alloc ?_ _)); exact BK163.out⟩, ⟨by repeat (first | (with_reducible first | exact HB.out | apply below_alloc | apply pw_below_drewN | apply below_drew1 | refine below_set ?_ GE163.out) | exact HB.out)⟩⟩
                        · rw [if_neg c29] at H
                          exact absurd H (by simp)
                      · rw [if_neg c28] at H
                        exact absurd H (by simp)
                  · rw [if_neg c24] at H
                    exact absurd H (by simp)
                · rw [if_neg c23] at H
                  have c23b0 : decide (0 < (l2_3.length : Int)) = false := decide_eq_false c23
                  have c23b1 : decide (0 < l2_3.length) = false := decide_eq_false (by omega)
                  clear c23
                  have H' := Aside0.mk H
                  clear H
                  have hcz31_0 : wc.cell? ⟨gb163, 0, none⟩ = some (.int .i64 a2_0) := (blk_cell BK163.out 0).trans rfl
                  have hcz31_1 : wc.cell? ⟨gb163, 1, none⟩ = some (.int .i64 a2_1) := (blk_cell BK163.out 1).trans rfl
                  have hcz31_2 : wc.cell? ⟨gb163, 2, none⟩ = some (.int .i64 a2_2) := (blk_cell BK163.out 2).trans rfl
                  have hcz31_3 : wc.cell? ⟨gb163, 3, none⟩ = some (.slice A2_3 l2_3.length c2_3) := (blk_cell BK163.out 3).trans rfl
                  have hfz31_0 := blk_frozen BK163.out 0
                  have hfz31_1 := blk_frozen BK163.out 1
                  have hfz31_2 := blk_frozen BK163.out 2
                  have hfz31_3 := blk_frozen BK163.out 3
                  go_wp2
                  go_meet
                  case rel => exact ⟨_, (false), (by first | rfl | (simp; done) | (simp [*]; done)), H', ⟨by have := HJ3.out; first | omega | exact Nat.le_refl _⟩, ⟨by (with_reducible repeat (first | refine blk_drewN ?_ _ | refine blk_drew ?_ | refine blk_alloc ?_ _)); exact BK163.out⟩, ⟨by repeat (first | (with_reducible first | exact HB.out | apply below_alloc | apply pw_below_drewN | apply below_drew1 | refine below_set ?_ GE163.out) | exact HB.out)⟩⟩
              · rw [if_neg c22] at H
                have c22b0 : (a2_2 == 0) = false := beq_eq_false_iff_ne.mpr c22
                have c22b1 : (a2_2 != 0) = true := bne_iff_ne.mpr c22
                have H' := Aside0.mk H
                clear H
                have hcz32_0 : wc.cell? ⟨gb163, 0, none⟩ = some (.int .i64 a2_0) := (blk_cell BK163.out 0).trans rfl
                have hcz32_1 : wc.cell? ⟨gb163, 1, none⟩ = some (.int .i64 a2_1) := (blk_cell BK163.out 1).trans rfl
                have hcz32_2 : wc.cell? ⟨gb163, 2, none⟩ = some (.int .i64 a2_2) := (blk_cell BK163.out 2).trans rfl
                have hcz32_3 : wc.cell? ⟨gb163, 3, none⟩ = some (.slice A2_3 l2_3.length c2_3) := (blk_cell BK163.out 3).trans rfl
                have hfz32_0 := blk_frozen BK163.out 0
                have hfz32_1 := blk_frozen BK163.out 1
                have hfz32_2 := blk_frozen BK163.out 2
                have hfz32_3 := blk_frozen BK163.out 3
                go_wp2
                go_meet
                case rel => exact ⟨_, (true), (by first | rfl | (simp; done) | (simp [*]; done)), H', ⟨by have := HJ3.out; first | omega | exact Nat.le_refl _⟩, ⟨by (with_reducible repeat (first | refine blk_drewN ?_ _ | refine blk_drew ?_ | refine blk_alloc ?_ _)); exact BK163.out⟩, ⟨by repeat (first | (with_reducible first | exact HB.out | apply below_alloc | apply pw_below_drewN | apply below_drew1 | refine below_set ?_ GE163.out) | exact HB.out)⟩⟩
            · rw [if_neg c21] at H
              have c21b0 : ((l2_3.length : Int) == 0) = false := beq_eq_false_iff_ne.mpr c21
              have c21b1 : ((l2_3.length : Int) != 0) = true := bne_iff_ne.mpr c21
              have c21b2 : ¬ (l2_3 = []) := fun h_ => c21 (by rw [h_]; rfl)
              by_cases c33 : (l2_3.length : Int) > 0
              · rw [if_pos c33] at H
                have c33b0 : decide (0 < (l2_3.length : Int)) = true := decide_eq_true c33
                have c33b1 : decide (0 < l2_3.length) = true := decide_eq_true (by omega)
                clear c33
                by_cases c34 : 0 < (l2_3.length : Int)
                · rw [if_pos c34] at H
                  have c34b0 : decide (0 < (l2_3.length : Int)) = true := decide_eq_true c34
                  have c34b1 : decide (0 < l2_3.length) = true := decide_eq_true (by omega)
                  clear c34
                  by_cases c35 : (rd l2_3 0) = 0
                  · rw [if_pos c35] at H
                    have c35b0 : ((rd l2_3 0) == 0) = true := beq_iff_eq.mpr c35
                    have c35b1 : ((rd l2_3 0) != 0) = false := bne_eq_false_iff_eq.mpr c35
                    clear c35
                    have H' := Aside0.mk H
                    clear H
                    have hcz36_0 : wc.cell? ⟨gb163, 0, none⟩ = some (.int .i64 a2_0) := (blk_cell BK163.out 0).trans rfl
                    have hcz36_1 : wc.cell? ⟨gb163, 1, none⟩ = some (.int .i64 a2_1) := (blk_cell BK163.out 1).trans rfl
                    have hcz36_2 : wc.cell? ⟨gb163, 2, none⟩ = some (.int .i64 a2_2) := (blk_cell BK163.out 2).trans rfl
                    have hcz36_3 : wc.cell? ⟨gb163, 3, none⟩ = some (.slice A2_3 l2_3.length c2_3) := (blk_cell BK163.out 3).trans rfl
                    have hfz36_0 := blk_frozen BK163.out 0
                    have hfz36_1 := blk_frozen BK163.out 1
                    have hfz36_2 := blk_frozen BK163.out 2
                    have hfz36_3 := blk_frozen BK163.out 3
                    have p166 : 0 ≤ (0 : Int) := (by omega)
                    have q166 : 0 < (l2_3.length : Int) := of_decide_eq_true (by first | (with_reducible assumption) | assumption)
                    obtain ⟨ad166, e166, hx166_0⟩ := Kd.at_int HR2_3.out 0 p166 q166
                    cases e166
                    have qi166 : (0 < l2_3.length) = True := eq_true (by omega)
                    (try rw [show ((0 : Int)).toNat = 0 from rfl] at hx166_0)
                    (try rw [Addr.add_zero'] at hx166_0)
                    replace hx166_0 := (HB.out.cell (World.block_lt_of_cell? w _ hx166_0)).trans hx166_0
                    replace p166 := eq_true p166
                    replace q166 := eq_true q166
                    go_wp2
                    go_meet
                    case rel => exact ⟨_, (true), (by first | rfl | (simp; done) | (simp [*]; done)), H', ⟨by have := HJ3.out; first | omega | exact Nat.le_refl _⟩, ⟨by (with_reducible repeat (first | refine blk_drewN ?_ _ | refine blk_drew ?_ | refine blk_alloc ?_ _)); exact BK163.out⟩, ⟨by repeat (first | (with_reducible first | exact HB.out | apply below_alloc | apply pw_below_drewN | apply below_drew1 | refine below_set ?_ GE163.out) | exact HB.out)⟩⟩
                  · rw [if_neg c35] at H
                    have c35b0 : ((rd l2_3 0) == 0) = false := beq_eq_false_iff_ne.mpr c35
                    have c35b1 : ((rd l2_3 0) != 0) = true := bne_iff_ne.mpr c35
                    obtain ⟨ji37, hji37⟩ : ∃ j_ : Int, (wrap64 ((l2_3.length : Int) - 1)) = j_ := ⟨_, rfl⟩
                    replace H : (if 0 ≤ (ji37) then (if (ji37) < (l2_3.length : Int) then (tape_fits.j1 kj3 a1 ((rd l2_3 (ji37)) == 0) a2_0 a2_1 a2_2 l2_3) else (none)) else (none)) = some r := by first | (rw [hji37] at H; exact H) | (simp only [hji37] at H ⊢; exact H)
                    have hji37w : (IntKind.i64.wrap ((l2_3.length : Int) - 1)) = ji37 := (i64_w _).trans hji37
                    by_cases c38 : 0 ≤ (ji37)
                    · rw [if_pos c38] at H
                      have c38b0 : decide (0 ≤ (ji37)) = true := decide_eq_true c38
                      clear c38
                      by_cases c39 : (ji37) < (l2_3.length : Int)
                      · rw [if_pos c39] at H
                        have c39b0 : decide ((ji37) < (l2_3.length : Int)) = true := decide_eq_true c39
                        clear c39
                        have H' := Aside0.mk H
                        clear H
                        have hcz40_0 : wc.cell? ⟨gb163, 0, none⟩ = some (.int .i64 a2_0) := (blk_cell BK163.out 0).trans rfl
                        have hcz40_1 : wc.cell? ⟨gb163, 1, none⟩ = some (.int .i64 a2_1) := (blk_cell BK163.out 1).trans rfl
                        have hcz40_2 : wc.cell? ⟨gb163, 2, none⟩ = some (.int .i64 a2_2) := (blk_cell BK163.out 2).trans rfl
                        have hcz40_3 : wc.cell? ⟨gb163, 3, none⟩ = some (.slice A2_3 l2_3.length c2_3) := (blk_cell BK163.out 3).trans rfl
                        have hfz40_0 := blk_frozen BK163.out 0
                        have hfz40_1 := blk_frozen BK163.out 1
                        have hfz40_2 := blk_frozen BK163.out 2
                        have hfz40_3 := blk_frozen BK163.out 3
                        have p166 : 0 ≤ (0 : Int) := (by omega)
                        have q166 : 0 < (l2_3.length : Int) := of_decide_eq_true (by first | (with_reducible assumption) | assumption)
                        obtain ⟨ad166, e166, hx166_0⟩ := Kd.at_int HR2_3.out 0 p166 q166
                        cases e166
                        have qi166 : (0 < l2_3.length) = True := eq_true (by omega)
                        (try rw [show ((0 : Int)).toNat = 0 from rfl] at hx166_0)
                        (try rw [Addr.add_zero'] at hx166_0)
                        replace hx166_0 := (HB.out.cell (World.block_lt_of_cell? w _ hx166_0)).trans hx166_0
                        replace p166 := eq_true p166
                        replace q166 := eq_true q166
                        have p167 : 0 ≤ ((ji37) : Int) := of_decide_eq_true (by first | (with_reducible assumption) | assumption)
                        have q167 : (ji37) < (l2_3.length : Int) := of_decide_eq_true (by first | (with_reducible assumption) | assumption)
                        obtain ⟨ad167, e167, hx167_0⟩ := Kd.at_int HR2_3.out (ji37) p167 q167
                        obtain rfl : ad166 = ad167 := (by injection e167)
                        replace hx167_0 := (HB.out.cell (World.block_lt_of_cell? w _ hx167_0)).trans hx167_0
                        replace p167 := eq_true p167
                        replace q167 := eq_true q167
                        go_wp2
                        go_meet
                        case rel => exact ⟨_, (((rd l2_3 (ji37)) == 0)), (by first | rfl | (simp; done) | (simp only [← hji37] <;> (first | rfl | simp)) | (simp [*]; done)), H', ⟨by have := HJ3.out; first | omega | exact Nat.le_refl _⟩, ⟨by (with_reducible repeat (first | refine blk_drewN ?_ _ | refine blk_drew ?_ | refine blk_alloc ?_ _)); exact BK163.out⟩, ⟨by repeat (first | (with_reducible first | exact HB.out | apply below_alloc | apply pw_below_drewN | apply below_drew1 | refine below_set ?_ GE163.out) | exact HB.out)⟩⟩
                      · rw [if_neg c39] at H
                        exact absurd H (by simp)
                    · rw [if_neg c38] at H
                      exact absurd H (by simp)
                · rw [if_neg c34] at H
                  exact absurd H (by simp)
              · rw [if_neg c33] at H
                have c33b0 : decide (0 < (l2_3.length : Int)) = false := decide_eq_false c33
                have c33b1 : decide (0 < l2_3.length) = false := decide_eq_false (by omega)
                clear c33
                have H' := Aside0.mk H
                clear H
                go_wp2
                go_meet
                case rel => exact ⟨_, (false), (by first | rfl | (simp; done) | (simp [*]; done)), H', ⟨by have := HJ3.out; first | omega | exact Nat.le_refl _⟩, ⟨by (with_reducible repeat (first | refine blk_drewN ?_ _ | refine blk_drew ?_ | refine blk_alloc ?_ _)); exact BK163.out⟩, ⟨by repeat (first | (with_reducible first | exact HB.out | apply below_alloc | apply pw_below_drewN | apply below_drew1 | refine below_set ?_ GE163.out) | exact HB.out)⟩⟩
        case rest =>
          clear HC18
          try clear c1
          try clear p1
          try clear q1
          try clear hx1
          try clear qi1
          try clear c2
          try clear p2
          try clear c3
          try clear c6
          try clear c6b0
          try clear p6
          try clear c7
          try clear c8
          try clear c8b0
          try clear c10
          try clear c10b0
          try clear c12
          try clear c12b0
          try clear c14
          try clear c14b0
          try clear p16
          try clear q16
          try clear hx16
          try clear qi16
          try clear c17
          try clear c20
          try clear c20b0
          try clear c20b1
          try clear c21
          try clear c21b0
          try clear c21b1
          try clear c21b2
          try clear c22
          try clear c22b0
          try clear c22b1
          try clear c23
          try clear c23b0
          try clear c23b1
          try clear c24
          try clear c24b0
          try clear c24b1
          try clear c25
          try clear c25b0
          try clear c25b1
          try clear c28
          try clear c28b0
          try clear c29
          try clear c29b0
          try clear c33
          try clear c33b0
          try clear c33b1
          try clear c34
          try clear c34b0
          try clear c34b1
          try clear c35
          try clear c35b0
          try clear c35b1
          try clear c38
          try clear c38b0
          try clear c39
          try clear c39b0
          try clear hcz11_0
          try clear hcz11_1
          try clear hcz11_2
          try clear hcz11_3
          try clear hcz13_0
          try clear hcz13_1
          try clear hcz13_2
          try clear hcz13_3
          try clear hcz15_0
          try clear hcz15_1
          try clear hcz15_2
          try clear hcz15_3
          try clear hcz16_0
          try clear hcz16_1
          try clear hcz16_2
          try clear hcz16_3
          try clear hcz19_0
          try clear hcz19_1
          try clear hcz19_2
          try clear hcz19_3
          try clear hcz26_0
          try clear hcz26_1
          try clear hcz26_2
          try clear hcz26_3
          try clear hcz30_0
          try clear hcz30_1
          try clear hcz30_2
          try clear hcz30_3
          try clear hcz31_0
          try clear hcz31_1
          try clear hcz31_2
          try clear hcz31_3
          try clear hcz32_0
          try clear hcz32_1
          try clear hcz32_2
          try clear hcz32_3
          try clear hcz36_0
          try clear hcz36_1
          try clear hcz36_2
          try clear hcz36_3
          try clear hcz40_0
          try clear hcz40_1
          try clear hcz40_2
          try clear hcz40_3
          try clear hcz7_0
          try clear hcz7_1
          try clear hcz7_2
          try clear hcz7_3
          try clear hcz9_0
          try clear hcz9_1
          try clear hcz9_2
          try clear hcz9_3
          try clear hfz11_0
          try clear hfz11_1
          try clear hfz11_2
          try clear hfz11_3
          try clear hfz13_0
          try clear hfz13_1
          try clear hfz13_2
          try clear hfz13_3
          try clear hfz15_0
          try clear hfz15_1
          try clear hfz15_2
          try clear hfz15_3
          try clear hfz16_0
          try clear hfz16_1
          try clear hfz16_2
          try clear hfz16_3
          try clear hfz19_0
          try clear hfz19_1
          try clear hfz19_2
          try clear hfz19_3
          try clear hfz26_0
          try clear hfz26_1
          try clear hfz26_2
          try clear hfz26_3
          try clear hfz30_0
          try clear hfz30_1
          try clear hfz30_2
          try clear hfz30_3
          try clear hfz31_0
          try clear hfz31_1
          try clear hfz31_2
          try clear hfz31_3
          try clear hfz32_0
          try clear hfz32_1
          try clear hfz32_2
          try clear hfz32_3
          try clear hfz36_0
          try clear hfz36_1
          try clear hfz36_2
          try clear hfz36_3
          try clear hfz40_0
          try clear hfz40_1
          try clear hfz40_2
          try clear hfz40_3
          try clear hfz7_0
          try clear hfz7_1
          try clear hfz7_2
          try clear hfz7_3
          try clear hfz9_0
          try clear hfz9_1
          try clear hfz9_2
          try clear hfz9_3
          try clear hx164_0
          try clear hx165_0
          try clear hx166_0
          try clear hx167_0
          try clear p164
          try clear p165
          try clear p166
          try clear p167
          try clear p2
          try clear q164
          try clear q165
          try clear q166
          try clear q167
          obtain ⟨kq, x72_17, rfl, HA, HJ17, BK163, HB⟩ := hcut
          cases kq with
          | zero => exact absurd HA.out (by simp [tape_fits.j1])
          | succ kj17 =>
            have H := HA.out
            clear HA
            simp only [tape_fits.j1] at H
            by_cases c41 : x72_17 = true
            · subst c41
              have H1 : (some false) = some r := by rw [if_pos rfl] at H; exact H
              clear H
              have H := H1
              clear H1
              obtain rfl := Option.some.inj H
              go_wp2
              go_ret
              exact ⟨by first | rfl | (simp [errW_none, errW_some] <;> rfl) | (simp [*, errW_none, errW_some] <;> rfl), by repeat (first | (with_reducible first | exact HB.out | apply below_alloc | apply pw_below_drewN | apply below_drew1 | refine below_set ?_ GE163.out) | exact HB.out)⟩
            · replace c41 := Bool.eq_false_iff.mpr c41
              subst c41
              have H1 : (tape_fits.l0 kj17 a1 l2_3 (l2_3.length : Int) 0) = some r := by rw [if_neg (show ¬ (false = true) by decide)] at H; exact H
              clear H
              have H := H1
              clear H1
              have H' := Aside0.mk H
              clear H
              have hcz42_0 : wc.cell? ⟨gb163, 0, none⟩ = some (.int .i64 a2_0) := (blk_cell BK163.out 0).trans rfl
              have hcz42_1 : wc.cell? ⟨gb163, 1, none⟩ = some (.int .i64 a2_1) := (blk_cell BK163.out 1).trans rfl
              have hcz42_2 : wc.cell? ⟨gb163, 2, none⟩ = some (.int .i64 a2_2) := (blk_cell BK163.out 2).trans rfl
              have hcz42_3 : wc.cell? ⟨gb163, 3, none⟩ = some (.slice A2_3 l2_3.length c2_3) := (blk_cell BK163.out 3).trans rfl
              have hfz42_0 := blk_frozen BK163.out 0
              have hfz42_1 := blk_frozen BK163.out 1
              have hfz42_2 := blk_frozen BK163.out 2
              have hfz42_3 := blk_frozen BK163.out 3
              go_wp2
              go_loopg [76] kj17 (fun kq v76 w' => ∃ (x76_3 : Int), v76 = .int .i64 x76_3 ∧ Aside0 (tape_fits.l0 kq a1 l2_3 (l2_3.length : Int) x76_3 = some r) ∧ Aside0 (kq ≤ kj17) ∧ Aside0 (w'.heap[gb163]? = some (.cells #[.int .i64 a2_0, .int .i64 a2_1, .int .i64 a2_2, (.slice A2_3 l2_3.length c2_3)] 69 (0, 0))) ∧ Aside0 (Below w.heap.size w w'))
              case atStart => exact ⟨(0), (by first | rfl | (simp; done) | (simp [*]; done)), H', ⟨Nat.le_refl _⟩, ⟨by (with_reducible repeat (first | refine blk_drewN ?_ _ | refine blk_drew ?_ | refine blk_alloc ?_ _)); exact BK163.out⟩, ⟨by repeat (first | (with_reducible first | exact HB.out | apply below_alloc | apply pw_below_drewN | apply below_drew1 | refine below_set ?_ GE163.out) | exact HB.out)⟩⟩
              case round =>
                clear H'
                try clear c1
                try clear p1
                try clear q1
                try clear hx1
                try clear qi1
                try clear c2
                try clear p2
                try clear c3
                try clear c4
                try clear c6
                try clear c6b0
                try clear p6
                try clear c7
                try clear c8
                try clear c8b0
                try clear c10
                try clear c10b0
                try clear c12
                try clear c12b0
                try clear c14
                try clear c14b0
                try clear p16
                try clear q16
                try clear hx16
                try clear qi16
                try clear c17
                try clear c20
                try clear c20b0
                try clear c20b1
                try clear c21
                try clear c21b0
                try clear c21b1
                try clear c21b2
                try clear c22
                try clear c22b0
                try clear c22b1
                try clear c23
                try clear c23b0
                try clear c23b1
                try clear c24
                try clear c24b0
                try clear c24b1
                try clear c25
                try clear c25b0
                try clear c25b1
                try clear c28
                try clear c28b0
                try clear c29
                try clear c29b0
                try clear c33
                try clear c33b0
                try clear c33b1
                try clear c34
                try clear c34b0
                try clear c34b1
                try clear c35
                try clear c35b0
                try clear c35b1
                try clear c38
                try clear c38b0
                try clear c39
                try clear c39b0
                try clear c41
                try clear hcz11_0
                try clear hcz11_1
                try clear hcz11_2
                try clear hcz11_3
                try clear hcz13_0
                try clear hcz13_1
                try clear hcz13_2
                try clear hcz13_3
                try clear hcz15_0
                try clear hcz15_1
                try clear hcz15_2
                try clear hcz15_3
                try clear hcz16_0
                try clear hcz16_1
                try clear hcz16_2
                try clear hcz16_3
                try clear hcz19_0
                try clear hcz19_1
                try clear hcz19_2
                try clear hcz19_3
                try clear hcz26_0
                try clear hcz26_1
                try clear hcz26_2
                try clear hcz26_3
                try clear hcz30_0
                try clear hcz30_1
                try clear hcz30_2
                try clear hcz30_3
                try clear hcz31_0
                try clear hcz31_1
                try clear hcz31_2
                try clear hcz31_3
                try clear hcz32_0
                try clear hcz32_1
                try clear hcz32_2
                try clear hcz32_3
                try clear hcz36_0
                try clear hcz36_1
                try clear hcz36_2
                try clear hcz36_3
                try clear hcz40_0
                try clear hcz40_1
                try clear hcz40_2
                try clear hcz40_3
                try clear hcz42_0
                try clear hcz42_1
                try clear hcz42_2
                try clear hcz42_3
                try clear hcz7_0
                try clear hcz7_1
                try clear hcz7_2
                try clear hcz7_3
                try clear hcz9_0
                try clear hcz9_1
                try clear hcz9_2
                try clear hcz9_3
                try clear hfz11_0
                try clear hfz11_1
                try clear hfz11_2
                try clear hfz11_3
                try clear hfz13_0
                try clear hfz13_1
                try clear hfz13_2
                try clear hfz13_3
                try clear hfz15_0
                try clear hfz15_1
                try clear hfz15_2
                try clear hfz15_3
                try clear hfz16_0
                try clear hfz16_1
                try clear hfz16_2
                try clear hfz16_3
                try clear hfz19_0
                try clear hfz19_1
                try clear hfz19_2
                try clear hfz19_3
                try clear hfz26_0
                try clear hfz26_1
                try clear hfz26_2
                try clear hfz26_3
                try clear hfz30_0
                try clear hfz30_1
                try clear hfz30_2
                try clear hfz30_3
                try clear hfz31_0
                try clear hfz31_1
                try clear hfz31_2
                try clear hfz31_3
                try clear hfz32_0
                try clear hfz32_1
                try clear hfz32_2
                try clear hfz32_3
                try clear hfz36_0
                try clear hfz36_1
                try clear hfz36_2
                try clear hfz36_3
                try clear hfz40_0
                try clear hfz40_1
                try clear hfz40_2
                try clear hfz40_3
                try clear hfz42_0
                try clear hfz42_1
                try clear hfz42_2
                try clear hfz42_3
                try clear hfz7_0
                try clear hfz7_1
                try clear hfz7_2
                try clear hfz7_3
                try clear hfz9_0
                try clear hfz9_1
                try clear hfz9_2
                try clear hfz9_3
                try clear hx164_0
                try clear hx165_0
                try clear hx166_0
                try clear hx167_0
                try clear p1
                try clear p16
                try clear p164
                try clear p165
                try clear p166
                try clear p167
                try clear p2
                try clear p6
                try clear q1
                try clear q16
                try clear q164
                try clear q165
                try clear q166
                try clear q167
                obtain ⟨x76_3, rfl, HA, HK3, BK163, HB⟩ := hrel
                cases gk with
                | zero => exact absurd HA.out (by simp [tape_fits.l0])
                | succ k3 =>
                  have H := HA.out
                  clear HA
                  simp only [tape_fits.l0] at H
                  by_cases c43 : x76_3 < (l2_3.length : Int)
                  · rw [if_pos c43] at H
                    have c43b0 : decide (x76_3 < (l2_3.length : Int)) = true := decide_eq_true c43
                    clear c43
                    by_cases c44 : 0 ≤ x76_3
                    · rw [if_pos c44] at H
                      have c44b0 : decide (0 ≤ x76_3) = true := decide_eq_true c44
                      clear c44
                      by_cases c45 : x76_3 < (l2_3.length : Int)
                      · rw [if_pos c45] at H
                        have c45b0 : decide (x76_3 < (l2_3.length : Int)) = true := decide_eq_true c45
                        clear c45
                        by_cases c46 : (rd l2_3 x76_3) < 0
                        · rw [if_pos c46] at H
                          have c46b0 : decide ((rd l2_3 x76_3) < 0) = true := decide_eq_true c46
                          clear c46
                          obtain rfl := Option.some.inj H
                          have p168 : 0 ≤ (x76_3 : Int) := of_decide_eq_true (by first | (with_reducible assumption) | assumption)
                          have q168 : x76_3 < (l2_3.length : Int) := of_decide_eq_true (by first | (with_reducible assumption) | assumption)
                          obtain ⟨ad168, e168, hx168_0⟩ := Kd.at_int HR2_3.out x76_3 p168 q168
                          cases e168
                          replace hx168_0 := (HB.out.cell (World.block_lt_of_cell? w _ hx168_0)).trans hx168_0
                          replace p168 := eq_true p168
                          replace q168 := eq_true q168
                          go_wp2
                          go_ret
                          exact ⟨by first | rfl | (simp [errW_none, errW_some] <;> rfl) | (simp [*, errW_none, errW_some] <;> rfl), by repeat (first | (with_reducible first | exact HB.out | apply below_alloc | apply pw_below_drewN | apply below_drew1 | refine below_set ?_ GE163.out) | exact HB.out)⟩
                        · rw [if_neg c46] at H
                          have c46b0 : decide ((rd l2_3 x76_3) < 0) = false := decide_eq_false c46
                          clear c46
                          by_cases c47 : (rd l2_3 x76_3) ≥ a1
                          · rw [if_pos c47] at H
                            have c47b0 : decide (a1 ≤ (rd l2_3 x76_3)) = true := decide_eq_true c47
                            clear c47
                            obtain rfl := Option.some.inj H
                            have p168 : 0 ≤ (x76_3 : Int) := of_decide_eq_true (by first | (with_reducible assumption) | assumption)
                            have q168 : x76_3 < (l2_3.length : Int) := of_decide_eq_true (by first | (with_reducible assumption) | assumption)
                            obtain ⟨ad168, e168, hx168_0⟩ := Kd.at_int HR2_3.out x76_3 p168 q168
                            cases e168
                            replace hx168_0 := (HB.out.cell (World.block_lt_of_cell? w _ hx168_0)).trans hx168_0
                            replace p168 := eq_true p168
                            replace q168 := eq_true q168
                            go_wp2
                            go_ret
                            exact ⟨by first | rfl | (simp [errW_none, errW_some] <;> rfl) | (simp [*, errW_none, errW_some] <;> rfl), by repeat (first | (with_reducible first | exact HB.out | apply below_alloc | apply pw_below_drewN | apply below_drew1 | refine below_set ?_ GE163.out) | exact HB.out)⟩
                          · rw [if_neg c47] at H
                            have c47b0 : decide (a1 ≤ (rd l2_3 x76_3)) = false := decide_eq_false c47
                            clear c47
                            have H' := Aside0.mk H
                            clear H
                            have p168 : 0 ≤ (x76_3 : Int) := of_decide_eq_true (by first | (with_reducible assumption) | assumption)
                            have q168 : x76_3 < (l2_3.length : Int) := of_decide_eq_true (by first | (with_reducible assumption) | assumption)
                            obtain ⟨ad168, e168, hx168_0⟩ := Kd.at_int HR2_3.out x76_3 p168 q168
                            cases e168
                            replace hx168_0 := (HB.out.cell (World.block_lt_of_cell? w _ hx168_0)).trans hx168_0
                            replace p168 := eq_true p168
                            replace q168 := eq_true q168
                            go_wp2
                            go_roundg k3
                            case measure => have := HJ3.out; have := HJ17.out; have := HK3.out; omega
                            case rel => exact ⟨(wrap64 (x76_3 + 1)), (by first | rfl | (simp; done) | (simp [*]; done)), H', ⟨by have := HJ3.out; have := HJ17.out; have := HK3.out; omega⟩, ⟨by (with_reducible repeat (first | refine blk_drewN ?_ _ | refine blk_drew ?_ | refine blk_alloc ?_ _)); exact BK163.out⟩, ⟨by repeat (first | (with_reducible first | exact HB.out | apply below_alloc | apply pw_below_drewN | apply below_drew1 | refine below_set ?_ GE163.out) | exact HB.out)⟩⟩
                      · rw [if_neg c45] at H
                        exact absurd H (by simp)
                    · rw [if_neg c44] at H
                      exact absurd H (by simp)
                  · rw [if_neg c43] at H
                    have c43b0 : decide (x76_3 < (l2_3.length : Int)) = false := decide_eq_false c43
                    clear c43
                    obtain rfl := Option.some.inj H
                    go_wp2
                    go_ret
                    exact ⟨by first | rfl | (simp [errW_none, errW_some] <;> rfl) | (simp [*, errW_none, errW_some] <;> rfl), by repeat (first | (with_reducible first | exact HB.out | apply below_alloc | apply pw_below_drewN | apply below_drew1 | refine below_set ?_ GE163.out) | exact HB.out)⟩
end Go.Proofs.Ytgnhlaonckognaa.PBackLevels
