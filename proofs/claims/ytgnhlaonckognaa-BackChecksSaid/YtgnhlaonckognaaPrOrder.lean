/- What the printed functions compare, Less, Same compute: the order of partial configurations. Conditions: lists shorter than 2^47. -/
import Derived.Test.YtgnhlaonckognaaPcomparex1
import Derived.Test.YtgnhlaonckognaaPBackLevelsx8
import Derived.Test.YtgnhlaonckognaaMem
namespace Go.Proofs.Ytgnhlaonckognaa
open Go.RowKit Go.Proofs.YtgnhlaonckognaaW.PrintWords Go.Proofs.Ytgnhlaonckognaa.PBackLevels Go.Proofs.Ytgnhlaonckognaa.Pcompare
set_option linter.unusedVariables false
set_option linter.unusedSimpArgs false

theorem wrap_one' {j : Int} (h0 : 0 ≤ j) (h1 : j ≤ 140737488355328) : wrap64 (j + 1) = j + 1 := by unfold wrap64; omega
theorem drop_nil (l : List Int) (j : Int) (h : (l.length : Int) ≤ j) : l.drop j.toNat = [] := List.drop_eq_nil_of_le (by omega)
theorem rd_at (l : List Int) (j : Int) (h0 : 0 ≤ j) (h : j < l.length) : l.drop j.toNat = rd l j :: l.drop (j + 1).toNat := by
  have hl : j.toNat < l.length := by omega
  rw [List.drop_eq_getElem_cons hl, show (j + 1).toNat = j.toNat + 1 by omega]
  unfold rd
  rw [List.getD_eq_getElem?_getD, List.getElem?_eq_getElem hl]
  rfl

theorem cmpC_f (a b : Int) : cmp_Compare_int.f a b = some (cmpI a b) := by
  unfold cmp_Compare_int.f cmp_isNaN_int.f cmpI
  simp only [Option.bind_some, bne_self_eq_false, Bool.false_eq_true, if_false]
  by_cases h : a < b
  · rw [if_pos h, if_pos h]
  · rw [if_neg h, if_neg h]
    by_cases h2 : a > b
    · rw [if_pos h2, if_pos h2]
    · rw [if_neg h2, if_neg h2]
theorem cmpL_f (a b : List Int) (hl : (a.length : Int) ≤ 140737488355328) (d : Nat) :
    ∀ j : Int, 0 ≤ j → j ≤ b.length → j + d = a.length → Ev (fun k => slices_Compare_int_int.l0 k a b a (a.length : Int) j) (cmpL (a.drop j.toNat) (b.drop j.toNat)) := by
  induction d with
  | zero =>
    intro j h0 hb h
    rw [drop_nil a j (by omega)]
    refine Ev.step (f := fun _ => some (cmpL [] (b.drop j.toNat))) (fun k => ?_) (Ev.now _)
    simp only [slices_Compare_int_int.l0]
    rw [if_neg (by omega)]
    by_cases hlt : (a.length : Int) < b.length
    · rw [if_pos hlt, rd_at b j h0 (by omega)]; rfl
    · rw [if_neg hlt, drop_nil b j (by omega)]; rfl
  | succ d ih =>
    intro j h0 hb h
    rw [rd_at a j h0 (by omega)]
    by_cases hjb : j ≥ (b.length : Int)
    · rw [drop_nil b j (by omega)]
      refine Ev.step (f := fun _ => some 1) (fun k => ?_) (Ev.now _)
      simp only [slices_Compare_int_int.l0]
      rw [if_pos (by omega), if_pos h0, if_pos (by omega), if_pos hjb]
    · rw [rd_at b j h0 (by omega)]
      refine Ev.step (f := fun k => if cmpI (rd a j) (rd b j) = 0 then slices_Compare_int_int.l0 k a b a (a.length : Int) (j + 1) else some (cmpI (rd a j) (rd b j))) (fun k => ?_) ?_
      · simp only [slices_Compare_int_int.l0]
        rw [if_pos (by omega), if_pos h0, if_pos (by omega), if_neg hjb, if_pos (by omega), cmpC_f, wrap_one' h0 (by omega)]
        rfl
      · simp only [cmpL]
        by_cases he : cmpI (rd a j) (rd b j) = 0
        · simp only [he, if_true, ne_eq, not_true, if_false]
          exact ih (j + 1) (by omega) (by omega) (by omega)
        · simp only [if_neg he, ne_eq, he, not_false_eq_true, if_true]
          exact Ev.now _
theorem or_f (x y z : Int) : Ev (fun k => cmp_Or_int.f k [x, y, z]) (if x ≠ 0 then x else if y ≠ 0 then y else z) := by
  unfold cmp_Or_int.f
  have e1 : wrap64 (0 + 1) = 1 := by unfold wrap64; omega
  have e2 : wrap64 (1 + 1) = 2 := by unfold wrap64; omega
  have e3 : wrap64 (2 + 1) = 3 := by unfold wrap64; omega
  have r0 : rd [x, y, z] 0 = x := rfl
  have r1 : rd [x, y, z] 1 = y := rfl
  have r2 : rd [x, y, z] 2 = z := rfl
  refine Ev.step (f := fun k => if x = 0 then cmp_Or_int.l0 k 0 [x, y, z] (3 : Nat) 1 else some x) (fun k => by simp only [cmp_Or_int.l0, List.length_cons, List.length_nil]; rw [if_pos (by decide), if_pos (by decide), if_pos (by decide), r0, e1]) ?_
  by_cases hx : x = 0
  · simp only [hx, if_true, ne_eq, not_true, if_false]
    refine Ev.step (f := fun k => if y = 0 then cmp_Or_int.l0 k 0 [0, y, z] (3 : Nat) 2 else some y) (fun k => by simp only [cmp_Or_int.l0, List.length_cons, List.length_nil]; rw [if_pos (by decide), if_pos (by decide), if_pos (by decide), show rd [0, y, z] 1 = y from rfl, e2]) ?_
    by_cases hy : y = 0
    · simp only [hy, if_true, ne_eq, not_true, if_false]
      refine Ev.step (f := fun k => if z = 0 then cmp_Or_int.l0 k 0 [0, 0, z] (3 : Nat) 3 else some z) (fun k => by simp only [cmp_Or_int.l0, List.length_cons, List.length_nil]; rw [if_pos (by decide), if_pos (by decide), if_pos (by decide), show rd [0, 0, z] 2 = z from rfl, e3]) ?_
      by_cases hz : z = 0
      · simp only [hz, if_true]
        exact Ev.step (f := fun _ => some 0) (fun k => by simp only [cmp_Or_int.l0]; rw [if_neg (by decide)]) (Ev.now _)
      · simp only [if_neg hz]; exact Ev.now _
    · simp only [if_neg hy, ne_eq, hy, not_false_eq_true, if_true]; exact Ev.now _
  · simp only [if_neg hx, ne_eq, hx, not_false_eq_true, if_true]; exact Ev.now _
theorem cmpP_f (p q : Pt) (hl : (p.cells.length : Int) ≤ 140737488355328) : Ev (fun k => back_compare.f k p.state p.head p.cells q.state q.head q.cells) (cmpP p q) := by
  unfold back_compare.f
  simp only [cmpC_f, Option.bind_some]
  have h1 : Ev (fun k => slices_Compare_int_int.f k p.cells q.cells) (cmpL p.cells q.cells) := by
    have := cmpL_f p.cells q.cells hl p.cells.length 0 (Int.le_refl _) (by omega) (by omega)
    unfold slices_Compare_int_int.f
    simpa using this
  refine Ev.bind (f := fun k t145 => (cmp_Or_int.f k [cmpI p.state q.state, cmpI p.head q.head, t145]).bind fun t149 => some t149) h1 ?_
  refine Ev.congr (f := fun k => cmp_Or_int.f k [cmpI p.state q.state, cmpI p.head q.head, cmpL p.cells q.cells]) (fun k => by cases cmp_Or_int.f k [cmpI p.state q.state, cmpI p.head q.head, cmpL p.cells q.cells] <;> rfl) ?_
  exact or_f _ _ _

/-! ### Less, Same -/
theorem less_l0 (p q : Pt) (hl : (p.cells.length : Int) ≤ 140737488355328) (d : Nat) :
    ∀ j : Int, 0 ≤ j → j ≤ q.cells.length → j + d = p.cells.length → Ev (fun k => standstillref11_Less.l0 k j p.state p.head p.cells q.state q.head q.cells) (decide (cmpL (p.cells.drop j.toNat) (q.cells.drop j.toNat) < 0)) := by
  induction d with
  | zero =>
    intro j h0 hb h
    rw [drop_nil p.cells j (by omega)]
    refine Ev.step (f := fun k => standstillref11_Less.j1 k j false p.state p.head p.cells q.state q.head q.cells) (fun k => by simp only [standstillref11_Less.l0]; rw [if_neg (by omega)]) ?_
    refine Ev.step (f := fun _ => some (decide ((p.cells.length : Int) < q.cells.length))) (fun k => by simp only [standstillref11_Less.j1]; simp) ?_
    by_cases hlt : (p.cells.length : Int) < q.cells.length
    · rw [rd_at q.cells j h0 (by omega)]
      have e : decide ((p.cells.length : Int) < q.cells.length) = decide (cmpL [] (rd q.cells j :: q.cells.drop (j + 1).toNat) < 0) := by rw [decide_eq_true hlt]; rfl
      rw [← e]; exact Ev.now _
    · rw [drop_nil q.cells j (by omega)]
      have e : decide ((p.cells.length : Int) < q.cells.length) = decide (cmpL [] [] < 0) := by rw [decide_eq_false hlt]; rfl
      rw [← e]; exact Ev.now _
  | succ d ih =>
    intro j h0 hb h
    rw [rd_at p.cells j h0 (by omega)]
    refine Ev.step (f := fun k => standstillref11_Less.j1 k j (decide (j < (q.cells.length : Int))) p.state p.head p.cells q.state q.head q.cells) (fun k => by simp only [standstillref11_Less.l0]; rw [if_pos (by omega)]) ?_
    by_cases hjb : j < (q.cells.length : Int)
    · rw [rd_at q.cells j h0 hjb]
      refine Ev.step (f := fun k => if rd p.cells j = rd q.cells j then standstillref11_Less.l0 k (j + 1) p.state p.head p.cells q.state q.head q.cells else some (decide (rd p.cells j < rd q.cells j))) (fun k => ?_) ?_
      · simp only [standstillref11_Less.j1]
        rw [decide_eq_true hjb, if_pos rfl, if_pos h0, if_pos (by omega), if_pos hjb, wrap_one' h0 (by omega)]
      · simp only [cmpL]
        by_cases he : rd p.cells j = rd q.cells j
        · have := cmpI_zero.2 he
          simp only [he, if_true, this, ne_eq, not_true, if_false] at *
          simp only [cmpI_zero.2, ne_eq, not_true, if_false]
          exact ih (j + 1) (by omega) (by omega) (by omega)
        · have : ¬ cmpI (rd p.cells j) (rd q.cells j) = 0 := fun h => he (cmpI_zero.1 h)
          simp only [if_neg he, ne_eq, this, not_false_eq_true, if_true]
          rw [show decide (cmpI (rd p.cells j) (rd q.cells j) < 0) = decide (rd p.cells j < rd q.cells j) from by rw [decide_eq_decide]; exact cmpI_lt]
          exact Ev.now _
    · rw [drop_nil q.cells j (by omega)]
      refine Ev.step (f := fun _ => some (decide ((p.cells.length : Int) < q.cells.length))) (fun k => by simp only [standstillref11_Less.j1]; rw [decide_eq_false hjb]; simp) ?_
      have e : decide ((p.cells.length : Int) < q.cells.length) = decide (cmpL (rd p.cells j :: p.cells.drop (j + 1).toNat) [] < 0) := by rw [decide_eq_false (by omega)]; rfl
      rw [← e]; exact Ev.now _
theorem less_f (p q : Pt) (hl : (p.cells.length : Int) ≤ 140737488355328) : Ev (fun k => standstillref11_Less.f k p.state p.head p.cells q.state q.head q.cells) (ltP p q) := by
  unfold standstillref11_Less.f ltP cmpP
  by_cases h1 : p.state = q.state
  · simp only [if_pos h1, cmpI_zero.2 h1, ne_eq, not_true, if_false]
    by_cases h2 : p.head = q.head
    · simp only [if_pos h2, cmpI_zero.2 h2, ne_eq, not_true, if_false]
      have := less_l0 p q hl p.cells.length 0 (Int.le_refl _) (by omega) (by omega)
      simpa using this
    · have : ¬ cmpI p.head q.head = 0 := fun h => h2 (cmpI_zero.1 h)
      simp only [if_neg h2, this, not_false_eq_true, if_true]
      rw [show decide (cmpI p.head q.head < 0) = decide (p.head < q.head) from by rw [decide_eq_decide]; exact cmpI_lt]
      exact Ev.now _
  · have : ¬ cmpI p.state q.state = 0 := fun h => h1 (cmpI_zero.1 h)
    simp only [if_neg h1, ne_eq, this, not_false_eq_true, if_true]
    rw [show decide (cmpI p.state q.state < 0) = decide (p.state < q.state) from by rw [decide_eq_decide]; exact cmpI_lt]
    exact Ev.now _
theorem same_f (p q : Pt) (hl : (p.cells.length : Int) ≤ 140737488355328) (hl2 : (q.cells.length : Int) ≤ 140737488355328) : Ev (fun k => standstillref11_Same.f k p.state p.head p.cells q.state q.head q.cells) (decide (p = q)) := by
  unfold standstillref11_Same.f
  refine Ev.bind (f := fun k t => if t = true then some false else (standstillref11_Less.f k q.state q.head q.cells p.state p.head p.cells).bind fun t225 => some (!t225)) (less_f p q hl) ?_
  by_cases h : ltP p q = true
  · simp only [h, if_true]
    rw [decide_eq_false (fun e => by rw [e, ltP_irrefl] at h; exact absurd h (by simp))]
    exact Ev.now _
  · have h' : ltP p q = false := by simpa using h
    simp only [h', Bool.false_eq_true, if_false]
    refine Ev.bind (f := fun k t225 => some (!t225)) (less_f q p hl2) ?_
    by_cases h2 : ltP q p = true
    · rw [decide_eq_false (fun e => by rw [e, ltP_irrefl] at h2; exact absurd h2 (by simp)), h2]
      exact Ev.now _
    · have h2' : ltP q p = false := by simpa using h2
      rw [decide_eq_true (ltP_total h' h2'), h2']
      exact Ev.now _

/-! ### Partial configurations in memory -/
def kPt : Kd Pt := Kd.iso (Kd.pair (Kd.int .i64) (Kd.pair (Kd.int .i64) (Kd.slice 3 (Kd.int .i64)))) (fun x : Pt => (x.state, x.head, x.cells))
theorem kPt_open {w : World} {x : Pt} {cs : List Value} (h : kPt.K w x cs) : ∃ A c, cs = [.int .i64 x.state, .int .i64 x.head, .slice A x.cells.length c] ∧ x.cells.length ≤ c ∧ (Kd.int .i64).C w A x.cells.length x.cells := by
  obtain ⟨_, _, rfl, rfl, ⟨_, _, rfl, rfl, ⟨A2, c2, rfl, l2, g2⟩⟩⟩ := h
  exact ⟨A2, c2, rfl, l2, g2⟩
theorem kPt_mk (w : World) (x : Pt) {A : Option Addr} {c : Nat} (l : x.cells.length ≤ c) (g : (Kd.int .i64).C w A x.cells.length x.cells) : kPt.K w x [.int .i64 x.state, .int .i64 x.head, .slice A x.cells.length c] :=
  ⟨[.int .i64 x.state], [.int .i64 x.head, .slice A x.cells.length c], rfl, rfl, ⟨[.int .i64 x.head], [.slice A x.cells.length c], rfl, rfl, ⟨A, c, rfl, l, g⟩⟩⟩
theorem heap_kPt : Kd.Heap kPt := Kd.heap_iso _ (Kd.heap_pair (Kd.heap_int _) (Kd.heap_pair (Kd.heap_int _) (Kd.heap_slice _ (Kd.heap_int _))))

theorem call_compare (w : World) (p q : Pt) (c1 c2 : List Value) (h1 : kPt.K w p c1) (h2 : kPt.K w q c2) (hl : (p.cells.length : Int) ≤ 140737488355328) :
    Calls Try.prog 52 #[.agg c1.toArray, .agg c2.toArray] w fun e w' => e = .returned (.int .i64 (cmpP p q)) ∧ New w w' := by
  obtain ⟨A, c, rfl, hc, hC⟩ := kPt_open h1
  obtain ⟨A2, c', rfl, hc2, hC2⟩ := kPt_open h2
  obtain ⟨k, hk⟩ := (cmpP_f p q hl).rounds
  exact (back_compare.calls k p.state p.head A c p.cells q.state q.head A2 c' q.cells (cmpP p q) w hC hc hC2 hc2 hk).mono fun e w' ⟨he, hb⟩ => ⟨he, ⟨hb⟩⟩
theorem call_Less (w : World) (p q : Pt) (c1 c2 : List Value) (h1 : kPt.K w p c1) (h2 : kPt.K w q c2) (hl : (p.cells.length : Int) ≤ 140737488355328) :
    Calls Try.prog 36 #[.agg c1.toArray, .agg c2.toArray] w fun e w' => e = .returned (.bool (ltP p q)) ∧ New w w' := by
  obtain ⟨A, c, rfl, hc, hC⟩ := kPt_open h1
  obtain ⟨A2, c', rfl, hc2, hC2⟩ := kPt_open h2
  obtain ⟨k, hk⟩ := (less_f p q hl).rounds
  exact (standstillref11_Less.calls k p.state p.head A c p.cells q.state q.head A2 c' q.cells (ltP p q) w hC hc hC2 hc2 hk).mono fun e w' ⟨he, hb⟩ => ⟨he, ⟨hb⟩⟩
theorem call_Same (w : World) (p q : Pt) (c1 c2 : List Value) (h1 : kPt.K w p c1) (h2 : kPt.K w q c2) (hl : (p.cells.length : Int) ≤ 140737488355328) (hl2 : (q.cells.length : Int) ≤ 140737488355328) :
    Calls Try.prog 14 #[.agg c1.toArray, .agg c2.toArray] w fun e w' => e = .returned (.bool (decide (p = q))) ∧ New w w' := by
  obtain ⟨A, c, rfl, hc, hC⟩ := kPt_open h1
  obtain ⟨A2, c', rfl, hc2, hC2⟩ := kPt_open h2
  obtain ⟨k, hk⟩ := (same_f p q hl hl2).rounds
  exact (standstillref11_Same.calls k p.state p.head A c p.cells q.state q.head A2 c' q.cells (decide (p = q)) w hC hc hC2 hc2 hk).mono fun e w' ⟨he, hb⟩ => ⟨he, ⟨hb⟩⟩

end Go.Proofs.Ytgnhlaonckognaa
