/- back.compare walked: which blocks and draws it leaves; the sort's laying. Conditions: lists shorter than 2^47. -/
import Derived.Test.YtgnhlaonckognaaPrOrder
import Derived.Sort.Grow
namespace Go.Proofs.Ytgnhlaonckognaa
open Go.RowKit Go.Proofs.YtgnhlaonckognaaW.PrintWords Go.Proofs.Ytgnhlaonckognaa.Pcompare Go.Sort
set_option linter.unusedVariables false
set_option linter.unusedSimpArgs false

/-- w' is w with new blocks and draws. -/
structure Gr (w w' : World) : Prop where
  os : w'.os = w.os
  tape : w'.tape = w.tape
  output : w'.output = w.output
  drawn : ∃ q, w'.drawn = w.drawn + q
  heap : ∃ os, w'.heap = w.heap ++ os
theorem Gr.refl (w : World) : Gr w w := ⟨rfl, rfl, rfl, ⟨0, rfl⟩, ⟨#[], by simp⟩⟩
theorem Gr.drew {w w' : World} (h : Gr w w') : Gr w w'.drew := ⟨h.os, h.tape, h.output, by obtain ⟨q, hq⟩ := h.drawn; exact ⟨q + 1, by show w'.drawn + 1 = _; omega⟩, h.heap⟩
theorem Gr.drewN {w w' : World} (h : Gr w w') (n : Nat) : Gr w (w'.drewN n) := ⟨h.os, h.tape, h.output, by obtain ⟨q, hq⟩ := h.drawn; exact ⟨q + n, by show w'.drawn + n = _; omega⟩, h.heap⟩
theorem Gr.alloc {w w' : World} (h : Gr w w') (o : Obj) : Gr w (w'.alloc o) := ⟨h.os, h.tape, h.output, h.drawn, by
  obtain ⟨os, hos⟩ := h.heap
  refine ⟨os.push o, ?_⟩
  show w'.heap.push o = _
  rw [hos, Array.append_push]⟩
theorem Gr.new {w w' : World} (h : Gr w w') : New w w' := ⟨h.os, h.tape, h.output, by obtain ⟨os, hos⟩ := h.heap; rw [hos]; simp, fun k hk => by obtain ⟨os, hos⟩ := h.heap; rw [hos, Array.getElem?_append_left hk]⟩
theorem Gr.trans {w w1 w2 : World} (h : Gr w w1) (k : Gr w1 w2) : Gr w w2 := ⟨k.os.trans h.os, k.tape.trans h.tape, k.output.trans h.output, by
  obtain ⟨q, hq⟩ := h.drawn
  obtain ⟨q2, hq2⟩ := k.drawn
  exact ⟨q + q2, by omega⟩, by
  obtain ⟨o, ho⟩ := h.heap
  obtain ⟨o2, ho2⟩ := k.heap
  exact ⟨o ++ o2, by rw [ho2, ho, Array.append_assoc]⟩⟩
theorem Gr.to {w w' : World} (h : Gr w w') : ∃ q os, w' = grow (w.drewN q) os := by
  obtain ⟨q, hq⟩ := h.drawn
  obtain ⟨os, hos⟩ := h.heap
  refine ⟨q, os, ?_⟩
  have h1 := h.os; have h2 := h.tape; have h3 := h.output
  cases w'; cases w
  simp_all [grow, World.drewN]

set_option maxHeartbeats 4000000 in
set_option maxRecDepth 100000 in
theorem call_compare_gr (w : World) (p q : Pt) (A B : Option Addr) (c d : Nat) (h1 : (Kd.int .i64).C w A p.cells.length p.cells) (hc : p.cells.length ≤ c) (h2 : (Kd.int .i64).C w B q.cells.length q.cells) (hd : q.cells.length ≤ d) (hl : (p.cells.length : Int) ≤ 140737488355328) :
    Calls Try.prog 52 #[.agg #[.int .i64 p.state, .int .i64 p.head, .slice A p.cells.length c], .agg #[.int .i64 q.state, .int .i64 q.head, .slice B q.cells.length d]] w fun e w' => e = .returned (.int .i64 (cmpP p q)) ∧ Gr w w' := by
  obtain ⟨k1, hk1⟩ := (show Ev (fun k => slices_Compare_int_int.f k p.cells q.cells) (cmpL p.cells q.cells) from by
    have := cmpL_f p.cells q.cells hl p.cells.length 0 (Int.le_refl _) (by omega) (by omega)
    unfold slices_Compare_int_int.f
    simpa using this).rounds
  obtain ⟨k2, hk2⟩ := (or_f (cmpI p.state q.state) (cmpI p.head q.head) (cmpL p.cells q.cells)).rounds
  have hcmp : ∀ (a b : Int) (W : World), Calls Try.prog 86 #[.int .i64 a, .int .i64 b] W fun e w' => e = .returned (.int .i64 (cmpI a b)) ∧ Drawn0 W w' := fun a b W => cmp_Compare_int.calls a b _ W (cmpC_f a b)
  have hsl : ∀ W, New w W → Calls Try.prog 87 #[.slice A p.cells.length c, .slice B q.cells.length d] W fun e w' => e = .returned (.int .i64 (cmpL p.cells q.cells)) ∧ Drawn0 W w' := fun W hW =>
    slices_Compare_int_int.calls k1 A c p.cells B d q.cells _ W (Kd.C_below h1 hW.below) hc (Kd.C_below h2 hW.below) hd hk1
  have hor : ∀ (W : World) (b : Nat), W.heap[b]? = some (.cells #[.int .i64 (cmpI p.state q.state), .int .i64 (cmpI p.head q.head), .int .i64 (cmpL p.cells q.cells)] 3 (0, 0)) →
      Calls Try.prog 85 #[.slice (some ⟨b, 0, none⟩) 3 3] W fun e w' => e = .returned (.int .i64 (cmpP p q)) ∧ Drawn0 W w' := fun W b hb => by
    have hC : (Kd.int .i64).C W (some ⟨b, 0, none⟩) 3 [cmpI p.state q.state, cmpI p.head q.head, cmpL p.cells q.cells] := by
      refine ⟨rfl, by decide, fun _ => ⟨⟨b, 0, none⟩, rfl, fun j x hj => ⟨[.int .i64 x], rfl, rfl, fun i u hu => ?_⟩⟩⟩
      have hi : i = 0 := by have := (List.getElem?_eq_some_iff.1 hu).1; simpa using this
      subst hi
      have hu' : u = .int .i64 x := by simpa using hu.symm
      subst hu'
      rw [add_plain]
      refine blk_cell hb _ _ ?_
      have hsz : (Kd.int .i64).sz = 1 := rfl
      rw [hsz]
      match j, hj with
      | 0, hj => simp at hj; subst hj; rfl
      | 1, hj => simp at hj; subst hj; rfl
      | 2, hj => simp at hj; subst hj; rfl
    exact cmp_Or_int.calls k2 (some ⟨b, 0, none⟩) 3 [cmpI p.state q.state, cmpI p.head q.head, cmpL p.cells q.cells] _ W hC (Nat.le_refl _) hk2
  have HCMP := Lib.hid hcmp; have HSL := Lib.hid hsl; have HOR := Lib.hid hor
  clear hcmp hsl hor hk1 hk2 h1 h2 hl
  generalize cmpP p q = R at *
  generalize p.cells.length = n1 at *
  generalize q.cells.length = n2 at *
  go_enter Try.func52, Try.ntmps52
  go_wp2
  obtain ⟨W0, hW0⟩ : ∃ W0, W0 = (w.alloc (.cells #[.int .i64 p.state, .int .i64 p.head, .slice A n1 c] 36)).alloc (.cells #[.int .i64 q.state, .int .i64 q.head, .slice B n2 d] 36) := ⟨_, rfl⟩
  have hG : Gr w W0 := by rw [hW0]; exact ((Gr.refl w).alloc _).alloc _
  have hba : W0.heap[w.heap.size]? = some (.cells #[.int .i64 p.state, .int .i64 p.head, .slice A n1 c] 36 (0, 0)) := by
    rw [hW0]; exact (Below.heap_alloc _ _ _ (by simp)).trans (heap_alloc_new _ _)
  have hbb : W0.heap[w.heap.size + 1]? = some (.cells #[.int .i64 q.state, .int .i64 q.head, .slice B n2 d] 36 (0, 0)) := by
    rw [hW0]; exact heap_alloc_at _ _ _ (by simp)
  rw [← hW0]
  have a0 := blk_cell hba 0 (.int .i64 p.state) rfl
  have a1 := blk_cell hba 1 (.int .i64 p.head) rfl
  have a2 := blk_cell hba 2 (.slice A n1 c) rfl
  have b0 := blk_cell hbb 0 (.int .i64 q.state) rfl
  have b1 := blk_cell hbb 1 (.int .i64 q.head) rfl
  have b2 := blk_cell hbb 2 (.slice B n2 d) rfl
  have HG := Lib.hid hG
  clear hba hbb hW0 hG
  go_region_held3 (fun w' => w'.cell? ⟨w.heap.size, 0, none⟩ = some (.int .i64 p.state) ∧ w'.cell? ⟨w.heap.size, 1, none⟩ = some (.int .i64 p.head) ∧ w'.cell? ⟨w.heap.size, 2, none⟩ = some (.slice A n1 c) ∧ w'.cell? ⟨w.heap.size + 1, 0, none⟩ = some (.int .i64 q.state) ∧ w'.cell? ⟨w.heap.size + 1, 1, none⟩ = some (.int .i64 q.head) ∧ w'.cell? ⟨w.heap.size + 1, 2, none⟩ = some (.slice B n2 d) ∧ Gr W0 w') (first | (refine ⟨?_, ?_, ?_, ?_, ?_, ?_, ?_⟩ <;> first | ((repeat (first | assumption | exact Gr.refl _ | refine Gr.drew ?_ | refine Gr.drewN ?_ _ | refine Gr.alloc ?_ _)); done) | (simp [*, World.cell?_alloc_some]; done))) (first
    | (go_at_call 86; refine (HCMP.out _ _ _).mono ?_; rintro e w2 ⟨rfl, ⟨nd, rfl⟩⟩)
    | (go_at_call 87; refine (HSL.out _ ?_).mono ?_; (refine HG.out.new.trans (Gr.new ?_); (repeat (first | assumption | exact Gr.refl _ | refine Gr.drew ?_ | refine Gr.drewN ?_ _ | refine Gr.alloc ?_ _))); rintro e w2 ⟨rfl, ⟨nd, rfl⟩⟩)
    | (go_at_call 85; refine (HOR.out _ _ ?_).mono ?_; (exact heap_alloc_new _ _); rintro e w2 ⟨rfl, ⟨nd, rfl⟩⟩))
  all_goals
    go_wp2
    go_ret
    exact ⟨rfl, HG.out.trans (by repeat (first | assumption | exact Gr.refl _ | refine Gr.drew ?_ | refine Gr.drewN ?_ _ | refine Gr.alloc ?_ _))⟩

/-- The function that slices.CompactFunc is handed: next's literal. -/
theorem call_eq (w : World) (p q : Pt) (A B : Option Addr) (c d : Nat) (h1 : (Kd.int .i64).C w A p.cells.length p.cells) (hc : p.cells.length ≤ c) (h2 : (Kd.int .i64).C w B q.cells.length q.cells) (hd : q.cells.length ≤ d) (hl : (p.cells.length : Int) ≤ 140737488355328) :
    Calls Try.prog 54 #[.agg #[.int .i64 p.state, .int .i64 p.head, .slice A p.cells.length c], .agg #[.int .i64 q.state, .int .i64 q.head, .slice B q.cells.length d]] w fun e w' => e = .returned (.bool (decide (p = q))) ∧ Gr w w' := by
  have hcon := fun (W : World) (hW : Gr w W) => call_compare_gr W p q A B c d (Kd.C_below h1 hW.new.below) hc (Kd.C_below h2 hW.new.below) hd hl
  have he : (cmpP p q == 0) = decide (p = q) := by
    by_cases h : p = q
    · rw [decide_eq_true h, cmpP_zero.2 h]; rfl
    · rw [decide_eq_false h]; simpa using fun h' => h (cmpP_zero.1 h')
  generalize cmpP p q = R at *
  generalize decide (p = q) = D at *
  have HE := Lib.hid he; have HCON := Lib.hid hcon
  clear he hcon h1 h2 hl
  generalize p.cells.length = n1 at *
  generalize q.cells.length = n2 at *
  have hg : Gr w ((w.alloc (.cells #[.int .i64 p.state, .int .i64 p.head, .slice A n1 c] 36)).alloc (.cells #[.int .i64 q.state, .int .i64 q.head, .slice B n2 d] 36)) := ((Gr.refl w).alloc _).alloc _
  have HG := Lib.hid hg
  clear hg
  go_enter Try.func54, Try.ntmps54
  go_wp2_with (go_at_call 52; refine (HCON.out _ HG.out).mono ?_; rintro e w2 ⟨rfl, hg2⟩; have HG2 := Lib.hid hg2; clear hg2)
  go_ret
  exact ⟨ret_b HE.out, HG.out.trans HG2.out⟩
end Go.Proofs.Ytgnhlaonckognaa
