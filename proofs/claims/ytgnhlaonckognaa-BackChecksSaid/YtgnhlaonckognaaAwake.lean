/- law11's awake walked: it answers true. Conditions: none. -/
import Derived.Test.YtgnhlaonckognaaCheck
namespace Go.Proofs.Ytgnhlaonckognaa
open Go.RowKit Go.Proofs.YtgnhlaonckognaaW.PrintWords
set_option linter.unusedVariables false
set_option linter.unusedSimpArgs false

/-- A machine of one state and two symbols in memory. -/
def mc1 (a b : Rl) : Mc := ⟨1, 2, [[a, b]]⟩
theorem mach1 {w : World} {g1 g2 : Nat} {a b : Rl} (h1 : w.heap[g1]? = some (.cells #[.int .i64 a.write, .int .i64 a.move, .int .i64 a.next, .int .i64 b.write, .int .i64 b.move, .int .i64 b.next] 84 (0, 0)))
    (h2 : w.heap[g2]? = some (.cells #[.slice (some ⟨g1, 0, none⟩) 2 2] 85 (0, 0))) : MachC w (.int .i64 1) (.int .i64 2) (.slice (some ⟨g2, 0, none⟩) 1 1) (mc1 a b) := by
  have hrow : kRl.C w (some ⟨g1, 0, none⟩) [a, b].length [a, b] := by
    refine ⟨rfl, by simp, fun _ => ⟨_, rfl, fun j p hj => ?_⟩⟩
    match j, hj with
    | 0, hj =>
      simp only [List.getElem?_cons_zero, Option.some.injEq] at hj
      subst hj
      refine ⟨[.int .i64 a.write, .int .i64 a.move, .int .i64 a.next], rfl, ⟨[.int .i64 a.write], [.int .i64 a.move, .int .i64 a.next], rfl, rfl, ⟨[.int .i64 a.move], [.int .i64 a.next], rfl, rfl, rfl⟩⟩, fun i u hu => ?_⟩
      rw [add_plain]
      match i, hu with
      | 0, hu => simp only [List.getElem?_cons_zero, Option.some.injEq] at hu; subst hu; exact blk_cell h1 0 _ rfl
      | 1, hu => simp only [List.getElem?_cons_succ, List.getElem?_cons_zero, Option.some.injEq] at hu; subst hu; exact blk_cell h1 1 _ rfl
      | 2, hu => simp only [List.getElem?_cons_succ, List.getElem?_cons_zero, Option.some.injEq] at hu; subst hu; exact blk_cell h1 2 _ rfl
      | i + 3, hu => simp at hu
    | 1, hj =>
      simp only [List.getElem?_cons_succ, List.getElem?_cons_zero, Option.some.injEq] at hj
      subst hj
      refine ⟨[.int .i64 b.write, .int .i64 b.move, .int .i64 b.next], rfl, ⟨[.int .i64 b.write], [.int .i64 b.move, .int .i64 b.next], rfl, rfl, ⟨[.int .i64 b.move], [.int .i64 b.next], rfl, rfl, rfl⟩⟩, fun i u hu => ?_⟩
      rw [add_plain]
      match i, hu with
      | 0, hu => simp only [List.getElem?_cons_zero, Option.some.injEq] at hu; subst hu; exact blk_cell h1 3 _ rfl
      | 1, hu => simp only [List.getElem?_cons_succ, List.getElem?_cons_zero, Option.some.injEq] at hu; subst hu; exact blk_cell h1 4 _ rfl
      | 2, hu => simp only [List.getElem?_cons_succ, List.getElem?_cons_zero, Option.some.injEq] at hu; subst hu; exact blk_cell h1 5 _ rfl
      | i + 3, hu => simp at hu
    | j + 2, hj => simp at hj
  refine ⟨rfl, rfl, some ⟨g2, 0, none⟩, 1, rfl, Nat.le_refl _, Kd.C_F (Kd.heap_slice _ heap_kRl) ⟨rfl, by simp [mc1], fun _ => ⟨_, rfl, fun j p hj => ?_⟩⟩⟩
  match j, hj with
  | 0, hj =>
    have hj' : [a, b] = p := by simpa [mc1] using hj
    subst hj'
    refine ⟨[.slice (some ⟨g1, 0, none⟩) [a, b].length 2], rfl, ⟨_, _, rfl, Nat.le_refl _, hrow⟩, fun i u hu => ?_⟩
    rw [add_plain]
    match i, hu with
    | 0, hu => simp only [List.getElem?_cons_zero, Option.some.injEq] at hu; subst hu; exact blk_cell h2 0 _ rfl
    | i + 1, hu => simp at hu
  | j + 1, hj => simp [mc1] at hj
def ra : Rl := ⟨0, 1, 0⟩
def rb : Rl := ⟨0, -1, 0⟩
def rc : Rl := ⟨0, -1, -1⟩
theorem mc1_sz (a b : Rl) : (mc1 a b).Sz := by
  refine ⟨fun row h => ?_, by simp [mc1]⟩
  have : row = [a, b] := by simpa [mc1] using h
  subst this
  simp
theorem lev_a : levelR (mc1 ra rb) 0 = ([], 0) := by rfl
theorem lev_b : levelR (mc1 ra rc) 0 = ([⟨0, 0, [1]⟩], 0) := by rfl
theorem chk_a : checkR (mc1 ra rb) 0 = (true, 0) := by rfl

set_option maxHeartbeats 8000000 in
set_option maxRecDepth 100000 in
theorem call_awake (w : World) : Calls Try.prog 12 #[] w (NewB w true) := by
  go_enter Try.func12, Try.ntmps12
  go_wp2_with fail
  obtain ⟨W0, hW0⟩ : ∃ W0, W0 = ((w.alloc (.cells #[.int .i64 0, .int .i64 1, .int .i64 0, .int .i64 0, .int .i64 (-1), .int .i64 0] 84)).alloc (.cells #[.slice (some ⟨w.heap.size, 0, none⟩) 2 2] 85)).alloc (.cells #[.int .i64 1, .int .i64 2, .slice (some ⟨w.heap.size + 1, 0, none⟩) 1 1] 24) := ⟨_, rfl⟩
  have hn0 : New w W0 := by rw [hW0]; exact (((New.refl _).alloc _).alloc _).alloc _
  have hm0 : MachC W0 (.int .i64 1) (.int .i64 2) (.slice (some ⟨w.heap.size + 1, 0, none⟩) 1 1) (mc1 ra rb) := by
    rw [hW0]
    exact mach1 (g1 := w.heap.size) ((((New.refl _).alloc _).alloc _).blk (heap_alloc_new w _)) (((New.refl _).alloc _).blk (heap_alloc_at _ _ _ (by simp)))
  have hb0 : W0.heap[w.heap.size + 1 + 1]? = some (.cells #[.int .i64 1, .int .i64 2, .slice (some ⟨w.heap.size + 1, 0, none⟩) 1 1] 24 (0, 0)) := by rw [hW0]; exact heap_alloc_at _ _ _ (by simp)
  rw [← hW0]
  have HM0 := Lib.hid hm0; have HN0 := Lib.hid hn0; have HB0 := Lib.hid hb0
  clear hW0 hn0 hm0 hb0
  have h1 := call_Level W0 _ _ _ _ HM0.out (mc1_sz _ _) 0
  rw [lev_a] at h1
  refine h1.mono ?_
  clear h1
  rintro e w1 ⟨v1, rfl, hp1, hn1⟩
  obtain ⟨A1, c1, hv1⟩ := hp1.shape
  simp only [List.length_nil] at hv1
  subst hv1
  have HN1 := Lib.hid (HN0.out.trans hn1)
  have HM1 := Lib.hid (HM0.out.new hn1); have HB1 := Lib.hid (hn1.blk HB0.out)
  have x0 := blk_cell HB1.out 0 _ rfl
  have x1 := blk_cell HB1.out 1 _ rfl
  have x2 := blk_cell HB1.out 2 _ rfl
  clear hp1 hn1 HM0 HB0 HN0
  go_wp2_with fail
  have h2 := call_Check w1 _ _ _ _ HM1.out (mc1_sz _ _) 0
  rw [chk_a] at h2
  refine h2.mono ?_
  clear h2
  rintro e w2 ⟨rfl, hn2⟩
  have HN2 := Lib.hid (HN1.out.trans hn2)
  clear hn2 HM1 HB1 HN1 x0 x1 x2
  go_wp2_with fail
  obtain ⟨W3, hW3⟩ : ∃ W3, W3 = ((w2.alloc (.cells #[.int .i64 0, .int .i64 1, .int .i64 0, .int .i64 0, .int .i64 (-1), .int .i64 (-1)] 84)).alloc (.cells #[.slice (some ⟨w2.heap.size, 0, none⟩) 2 2] 85)).alloc (.cells #[.int .i64 1, .int .i64 2, .slice (some ⟨w2.heap.size + 1, 0, none⟩) 1 1] 24) := ⟨_, rfl⟩
  have hn3 : New w2 W3 := by rw [hW3]; exact (((New.refl _).alloc _).alloc _).alloc _
  have hm3 : MachC W3 (.int .i64 1) (.int .i64 2) (.slice (some ⟨w2.heap.size + 1, 0, none⟩) 1 1) (mc1 ra rc) := by
    rw [hW3]
    exact mach1 (g1 := w2.heap.size) ((((New.refl _).alloc _).alloc _).blk (heap_alloc_new w2 _)) (((New.refl _).alloc _).blk (heap_alloc_at _ _ _ (by simp)))
  rw [← hW3]
  have HM3 := Lib.hid hm3; have HN3 := Lib.hid (HN2.out.trans hn3)
  clear hW3 hn3 hm3 HN2
  have h4 := call_Level W3 _ _ _ _ HM3.out (mc1_sz _ _) 0
  rw [lev_b] at h4
  refine h4.mono ?_
  clear h4
  rintro e w4 ⟨v4, rfl, hp4, hn4⟩
  obtain ⟨A4, c4, he4, hc4, hC4⟩ := Kd.R_reads hp4
  subst he4
  obtain ⟨ad, A5, c5, hA, k0, k1, k2, hC5⟩ := pt_cells hC4 0 (Int.le_refl _) (by simp)
  have hA5 := C_reads hC5
  have e0 : (List.getD [(⟨0, 0, [1]⟩ : Pt)] (Int.toNat 0) default) = ⟨0, 0, [1]⟩ := rfl
  rw [e0] at k2 hA5
  obtain ⟨ad5, hA6, hcell⟩ := hA5.2.2 (by simp)
  have hc0 := hcell 0 (by simp)
  subst hA; subst hA6
  have ez : ad.add ((0 : Int).toNat * 3) = ad := by show ad.add 0 = ad; unfold Addr.add; split <;> simp_all
  have ez5 : ad5.add 0 = ad5 := by unfold Addr.add; split <;> simp_all
  rw [ez] at k2
  rw [ez5] at hc0
  simp only [List.length_cons, List.length_nil, Nat.zero_add] at k2 hc4 ⊢
  have hc0' : w4.cell? ad5 = some (.int .i64 1) := hc0
  have HN4 := Lib.hid (HN3.out.trans hn4)
  clear hp4 hn4 hC4 hC5 hA5 e0 hcell hc0 ez ez5 k0 k1 HM3 HN3
  go_wp2
  go_ret
  exact ⟨rfl, HN4.out⟩
end Go.Proofs.Ytgnhlaonckognaa
