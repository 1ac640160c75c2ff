/- An argument that is a machine, opened: its cells are those of a machine as data. Conditions: none. -/
import Derived.Test.YtgnhlaonckognaaRows
import Derived.Test.YtgnhlaonckognaaLevA
import Derived.Lib.SmallJoins
import Derived.Deep.Slices
import Derived.Deep.Fields
namespace Go.Proofs.Ytgnhlaonckognaa
open Go.Joins Go.ChangeShapes Go.WideShapes Go.RowKit Go.Deep Go.Proofs.YtgnhlaonckognaaW.PrintWords
set_option linter.unusedVariables false
set_option linter.unusedSimpArgs false

section
variable {H : Type} {enc : TypeId × Value → H} {w : World} {base : Nat} {held : Bool}
theorem open_slice_fields {P : Program} {spare : Nat → Bool} {t e : TypeId} {fs : Array Field} {fuel : Nat} {cs : List Value} {x : DataW H × List MemPlace} (ht : P.underlying t = some (.slice e)) (he : P.underlying e = some (.struct fs))
    (hone : oneCellFields P fs = true) (hC : P.cellsOf e = fs.size) (h : DataW.trod enc P w base spare held fuel t cs = some x) :
    (cs = [.slice none 0 0] ∧ x = (.nil, [])) ∨
    ∃ (a : Addr) (len cap m : Nat), cs = [.slice (some a) len cap] ∧ len ≤ cap ∧ cap ≤ maxLen ∧ m = (if spare a.block then cap else len) ∧
      ∀ i, i < m → ∀ (j : Nat) (f : Field), fs[j]? = some f → ∃ (v : Value) (y : DataW H × List MemPlace) (n : Nat), w.cell? (a.add (i * fs.size + j)) = some v ∧ DataW.trod enc P w base spare held n f.type [v] = some y := by
  rcases open_slice ht h with h0 | ⟨a, len, cap, m, n, D, Pl, hcs, hb, hl, hm, hmm, hx, hi⟩
  · exact .inl h0
  · refine .inr ⟨a, len, cap, m, hcs, hl, hm, hmm, fun i him => ?_⟩
    obtain ⟨cs', hc, ht'⟩ := hi i him
    rw [hC] at hc
    obtain ⟨ys, n', hn', hy, hlen, hyl, hf⟩ := DataW.trod_struct he ht'
    obtain ⟨_, hcl, hat⟩ := World.cells?_some hc
    intro j f hj
    obtain ⟨ho, hk⟩ := hone_of hone j f hj
    have hjl : j < fs.size := (Array.getElem?_eq_some_iff.1 hj).1
    have hcell := hat j hjl
    have hv : cs'[j]? = some (cs'[j]'(by omega)) := List.getElem?_eq_getElem (by omega)
    have h1 := hf j f hj
    rw [ho, hk] at h1
    have hone' : (cs'.drop j).take 1 = [cs'[j]'(by omega)] := by
      rw [List.drop_eq_getElem_cons (by omega)]
      rfl
    rw [hone'] at h1
    have hys : ys[j]? = some (ys[j]'(by omega)) := List.getElem?_eq_getElem (by omega)
    refine ⟨_, _, _, ?_, h1.trans hys⟩
    rw [← Go.Deep.add_add, hcell, hv]

set_option maxRecDepth 100000 in
theorem open_rules {fuel : Nat} {v : Value} {x : DataW H × List MemPlace} (h : DataW.trod enc Try.prog w base (fun _ => true) held fuel 85 [v] = some x) :
    ∃ (row : List Rl) (A : Option Addr) (c : Nat), v = .slice A row.length c ∧ row.length ≤ c ∧ c ≤ maxLen ∧ kRl.C w A row.length row := by
  rcases open_slice_fields Try.underlying85 Try.underlying84 (by kernel_rfl) (by kernel_rfl) h with ⟨hcs, _⟩ | ⟨a, len, cap, m, hcs, hl, hm, hmm, hx⟩
  · injection hcs with hcs _
    exact ⟨[], none, 0, hcs, Nat.le_refl _, Nat.zero_le _, Kd.C_nil _ _⟩
  · injection hcs with hcs _
    have hmc : m = cap := by simpa using hmm
    subst hmc
    obtain ⟨f, hf⟩ := choose_lt (α := Rl) (n := len) (p := fun i r => w.cell? (a.add (i * 3)) = some (.int .i64 r.write) ∧ w.cell? (a.add (i * 3 + 1)) = some (.int .i64 r.move) ∧ w.cell? (a.add (i * 3 + 2)) = some (.int .i64 r.next)) (fun i hi => by
      have him : i < m := by omega
      obtain ⟨v0, y0, n0, c0, t0⟩ := hx i him 0 _ rfl
      obtain ⟨v1, y1, n1, c1, t1⟩ := hx i him 1 _ rfl
      obtain ⟨v2, y2, n2, c2, t2⟩ := hx i him 2 _ rfl
      obtain ⟨z0, e0, _⟩ := DataW.trod_int (k := .i64) Try.underlying3 t0
      obtain ⟨z1, e1, _⟩ := DataW.trod_int (k := .i64) Try.underlying3 t1
      obtain ⟨z2, e2, _⟩ := DataW.trod_int (k := .i64) Try.underlying3 t2
      injection e0 with e0 _
      injection e1 with e1 _
      injection e2 with e2 _
      subst e0; subst e1; subst e2
      exact ⟨⟨z0, z1, z2⟩, c0, c1, c2⟩)
    refine ⟨(List.range len).map f, some a, m, by simpa using hcs, by simpa using hl, hm, ?_⟩
    refine ⟨by simp, by simp; unfold maxLen at hm; omega, fun _ => ⟨a, rfl, fun j p hj => ?_⟩⟩
    have hjl : j < len := by have := (List.getElem?_eq_some_iff.1 hj).1; simpa using this
    have hp : p = f j := by
      rw [List.getElem?_map, List.getElem?_range hjl] at hj
      simpa using hj.symm
    subst hp
    obtain ⟨c0, c1, c2⟩ := hf j hjl
    refine ⟨[.int .i64 (f j).write, .int .i64 (f j).move, .int .i64 (f j).next], rfl, ?_, fun i u hu => ?_⟩
    · exact ⟨[.int .i64 (f j).write], [.int .i64 (f j).move, .int .i64 (f j).next], rfl, rfl, ⟨[.int .i64 (f j).move], [.int .i64 (f j).next], rfl, rfl, rfl⟩⟩
    · have hsz : kRl.sz = 3 := rfl
      rw [hsz]
      match i, hu with
      | 0, hu => simp only [List.getElem?_cons_zero, Option.some.injEq] at hu; subst hu; exact c0
      | 1, hu => simp only [List.getElem?_cons_succ, List.getElem?_cons_zero, Option.some.injEq] at hu; subst hu; exact c1
      | 2, hu => simp only [List.getElem?_cons_succ, List.getElem?_cons_zero, Option.some.injEq] at hu; subst hu; exact c2
      | i + 3, hu => simp at hu

set_option maxRecDepth 100000 in
theorem open_mach {r : Reach} {b0 : Nat} {v : Value} {d : DataW H} {p : List MemPlace} (hv : Value.okWide Try.prog w r b0 24 v) (h : DataW.Trod enc Try.prog w base (fun _ => true) held 24 v d p) :
    ∃ (m0 m1 m2 : Value) (m : Mc), v = .agg #[m0, m1, m2] ∧ MachC w m0 m1 m2 m ∧ m.Sz := by
  obtain ⟨v0, v1, v2, y0, y1, y2, n, rfl, rfl, rfl, h0, h1, h2⟩ := open_agg3 Try.underlying24 (by kernel_rfl) (by kernel_rfl) hv h
  obtain ⟨z0, e0, _⟩ := DataW.trod_int (k := .i64) Try.underlying3 h0
  obtain ⟨z1, e1, _⟩ := DataW.trod_int (k := .i64) Try.underlying3 h1
  injection e0 with e0 _
  injection e1 with e1 _
  subst e0; subst e1
  rcases open_slice1 Try.underlying22 (by kernel_rfl) h2 with ⟨hcs, _⟩ | ⟨a, len, cap, m, n', V, D, Pl, hcs, hb, hl, hm, hmm, hx, hV⟩
  · injection hcs with hcs _
    subst hcs
    exact ⟨_, _, _, ⟨z0, z1, []⟩, rfl, ⟨rfl, rfl, none, 0, rfl, Nat.le_refl _, Kd.C_F (Kd.heap_slice _ heap_kRl) (Kd.C_nil _ _)⟩, ⟨fun _ h => by simp at h, by simp⟩⟩
  · injection hcs with hcs _
    subst hcs
    have hmc : m = cap := by simpa using hmm
    subst hmc
    obtain ⟨f, hf⟩ := choose_lt (α := List Rl) (n := len) (p := fun i row => ∃ A c, w.cell? (a.add i) = some (.slice A row.length c) ∧ row.length ≤ c ∧ c ≤ maxLen ∧ kRl.C w A row.length row) (fun i hi => by
      obtain ⟨hc, ht⟩ := hV i (by omega)
      obtain ⟨row, A, c, e, h1, h2, h3⟩ := open_rules ht
      rw [e] at hc
      exact ⟨row, A, c, hc, h1, h2, h3⟩)
    refine ⟨_, _, _, ⟨z0, z1, (List.range len).map f⟩, rfl, ⟨rfl, rfl, some a, m, by simp, by simpa using hl, Kd.C_F (Kd.heap_slice _ heap_kRl) ?_⟩, ⟨fun row hr => ?_, ?_⟩⟩
    · refine ⟨by simp, by simp; unfold maxLen at hm; omega, fun _ => ⟨a, rfl, fun j q hj => ?_⟩⟩
      have hjl : j < len := by have := (List.getElem?_eq_some_iff.1 hj).1; simpa using this
      have hq : q = f j := by
        rw [List.getElem?_map, List.getElem?_range hjl] at hj
        simpa using hj.symm
      subst hq
      obtain ⟨A, c, hc, h1, h2, h3⟩ := hf j hjl
      refine ⟨[.slice A (f j).length c], rfl, ⟨A, c, rfl, h1, h3⟩, fun i u hu => ?_⟩
      have hsz : (Kd.slice 84 kRl).sz = 1 := rfl
      rw [hsz, Nat.mul_one]
      match i, hu with
      | 0, hu => simp only [List.getElem?_cons_zero, Option.some.injEq] at hu; subst hu; exact hc
      | i + 1, hu => simp at hu
    · obtain ⟨j, hj, rfl⟩ := List.mem_map.1 hr
      obtain ⟨A, c, _, h1, h2, _⟩ := hf j (by simpa using hj)
      unfold maxLen at h2
      omega
    · simp
      unfold maxLen at hm
      omega
end
end Go.Proofs.Ytgnhlaonckognaa
