/- slices.CompactFunc at []api.Partial, the walk: runs of equal elements become one. Conditions: a list of the call's own, cells of at most a million. -/
import Derived.Test.YtgnhlaonckognaaCompact
namespace Go.Proofs.Ytgnhlaonckognaa
open Go.RowKit Go.Proofs.YtgnhlaonckognaaW.PrintWords Go.Sort
set_option linter.unusedVariables false
set_option linter.unusedSimpArgs false

theorem Gr.grow {w w' : World} (h : Gr w w') (q : Nat) (os : Array Obj) : Gr w (Go.Sort.grow (w'.drewN q) os) :=
  h.trans ⟨rfl, rfl, rfl, ⟨q, rfl⟩, ⟨os, rfl⟩⟩

/-- Two elements of the row, in every world of the region. -/
structure TwoEl (w : World) (base b cap : Nat) (wr : World) (x y : El w base b) (i j : Nat) : Prop where
  x0 : ∀ n os, (grow (wr.drewN n) os).cell? ⟨b, i * 3, none⟩ = some (.int .i64 x.val.state)
  x1 : ∀ n os, (grow (wr.drewN n) os).cell? ⟨b, i * 3 + 1, none⟩ = some (.int .i64 x.val.head)
  x2 : ∀ n os, (grow (wr.drewN n) os).cell? ⟨b, i * 3 + 2, none⟩ = some x.v2
  y0 : ∀ n os, (grow (wr.drewN n) os).cell? ⟨b, j * 3, none⟩ = some (.int .i64 y.val.state)
  y1 : ∀ n os, (grow (wr.drewN n) os).cell? ⟨b, j * 3 + 1, none⟩ = some (.int .i64 y.val.head)
  y2 : ∀ n os, (grow (wr.drewN n) os).cell? ⟨b, j * 3 + 2, none⟩ = some y.v2
  eq : ∀ n os, Calls Try.prog 54 #[.agg #[.int .i64 x.val.state, .int .i64 x.val.head, x.v2], .agg #[.int .i64 y.val.state, .int .i64 y.val.head, y.v2]] (grow (wr.drewN n) os) fun e w' => e = .returned (.bool (decide (x.val = y.val))) ∧ ∃ p : GrownBy, w' = grow (wr.drewN p.n) p.os
theorem RowEl.two {w wr : World} {base b cap : Nat} {dk : Array (El w base b)} (h : RowEl w base b cap wr dk) (i j : Nat) (hi : i < dk.size) (hj : j < dk.size) : TwoEl w base b cap wr dk[i]! dk[j]! i j := by
  have hg : ∀ n os, RowEl w base b cap (grow (wr.drewN n) os) dk := fun n os => h.gr ((Gr.refl wr).grow n os)
  refine ⟨fun n os => ((hg n os).cell i hi).1, fun n os => ((hg n os).cell i hi).2.1, fun n os => ((hg n os).cell i hi).2.2, fun n os => ((hg n os).cell j hj).1, fun n os => ((hg n os).cell j hj).2.1, fun n os => ((hg n os).cell j hj).2.2, fun n os => Calls.grown_of (el_eq (fun k hk hne => (hg n os).chg.block k hk (fun e => hne (by injection e with e; exact e.symm))) _ _)⟩

theorem RowEl.some {w wr : World} {base b cap : Nat} {dk : Array (El w base b)} (h : RowEl w base b cap wr dk) (i : Nat) (hi : i < cap * 3) : (wr.cell? ⟨b, i, none⟩).isSome = true := by
  obtain ⟨cur, h1, h2, _⟩ := h.blk
  have : i < cur.size := by omega
  rw [blk_cell h1 i cur[i] (Array.getElem?_eq_getElem this)]
  rfl
theorem run_clear_pt (w : World) (b o n c : Nat) (hn : 0 < n) (hc : ∀ j, j < n * 3 → (w.cell? ⟨b, o + j, none⟩).isSome = true) (hf : ∀ j, w.frozen? ⟨b, j, none⟩ = false) :
    ∃ vs : List Value, vs.length = n * 3 ∧ ∀ ty, (Builtin.clear_ #[25] ty #[.slice (some ⟨b, o, none⟩) n c]).run Try.prog w = .ok (.tuple #[]) (w.setCells b o vs) := by
  have hz : ∀ v ∈ (Builtin.zeroCells #[.int .i64 0, .int .i64 0, .slice none 0 0] n).toList, v.oneCell' = true := by
    intro v hv
    simp [Builtin.zeroCells] at hv
    obtain ⟨i, _, rfl⟩ := hv
    have : i % 3 = 0 ∨ i % 3 = 1 ∨ i % 3 = 2 := by omega
    rcases this with e | e | e <;> rw [e] <;> rfl
  have hlen : (Builtin.zeroCells #[.int .i64 0, .int .i64 0, .slice none 0 0] n).toList.length = n * 3 := by simp [Builtin.zeroCells]
  have hst := run_storeCells_cells (P := Try.prog) b o (Builtin.zeroCells #[.int .i64 0, .int .i64 0, .slice none 0 0] n).toList 0 w (by rw [hlen]; simpa using hc) (fun j _ => hf _) hz
  simp only [Nat.add_zero] at hst
  refine ⟨_, hlen, fun ty => ?_⟩
  obtain ⟨m, rfl⟩ : ∃ m, n = m + 1 := ⟨n - 1, by omega⟩
  simp [Builtin.clear_, run_underlying Try.underlying25, Try.zeroValue36, hst, Value.cells]
end Go.Proofs.Ytgnhlaonckognaa
