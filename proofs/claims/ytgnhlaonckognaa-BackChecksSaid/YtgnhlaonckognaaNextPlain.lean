/- Plain laws: a sorted permutation made compact is the rising list; how next's loops come to the predecessors. Conditions: none. -/
import Derived.Test.YtgnhlaonckognaaRunPlain
import Derived.Lib.SlicesCompact
namespace Go.Proofs.Ytgnhlaonckognaa

theorem compact_eq (l : List Pt) : Lib.compact l = ((List.range l.length).filter (Lib.keeps l.toArray)).map (l.toArray[·]!) := rfl
theorem keeps_false {l : List Pt} {j : Nat} (h : Lib.keeps l.toArray j = false) : 0 < j ∧ l.toArray[j]! = l.toArray[j - 1]! := by
  have h1 : ¬ (j = 0 ∨ l.toArray[j]! ≠ l.toArray[j - 1]!) := by simpa [Lib.keeps] using h
  have h2 : ¬ j = 0 := fun e => h1 (.inl e)
  exact ⟨by omega, Decidable.byContradiction fun e => h1 (.inr e)⟩
theorem keeps_true {l : List Pt} {j : Nat} (h : Lib.keeps l.toArray j = true) : j = 0 ∨ l.toArray[j]! ≠ l.toArray[j - 1]! := by simpa [Lib.keeps] using h
theorem compact_all_mem (l : List Pt) : ∀ j, j < l.length → l.toArray[j]! ∈ Lib.compact l := by
  intro j
  induction j with
  | zero =>
    intro h
    rw [compact_eq]
    exact List.mem_map.2 ⟨0, List.mem_filter.2 ⟨List.mem_range.2 h, by simp [Lib.keeps]⟩, rfl⟩
  | succ j ih =>
    intro h
    cases hk : Lib.keeps l.toArray (j + 1)
    · have := (keeps_false hk).2
      rw [this, Nat.add_sub_cancel]
      exact ih (by omega)
    · rw [compact_eq]
      exact List.mem_map.2 ⟨j + 1, List.mem_filter.2 ⟨List.mem_range.2 h, hk⟩, rfl⟩
theorem mem_compact {l : List Pt} {p : Pt} : p ∈ Lib.compact l ↔ p ∈ l := by
  constructor
  · intro h
    rw [compact_eq] at h
    obtain ⟨j, hj, rfl⟩ := List.mem_map.1 h
    have hl := List.mem_range.1 (List.mem_filter.1 hj).1
    rw [getElem!_pos l.toArray j (by simpa using hl)]
    simp
  · intro h
    obtain ⟨j, hj, rfl⟩ := List.mem_iff_getElem.1 h
    have := compact_all_mem l j hj
    rw [getElem!_pos l.toArray j (by simpa using hj)] at this
    simpa using this
theorem rising_compact {l : List Pt} (h : l.Pairwise fun p q => ltP q p = false) : Rising (Lib.compact l) := by
  have hle : ∀ i j, i ≤ j → j < l.length → ltP l.toArray[j]! l.toArray[i]! = false := by
    intro i j hij hj
    rcases Nat.lt_or_ge i j with h' | h'
    · have := List.pairwise_iff_getElem.1 h i j (by omega) hj h'
      rw [getElem!_pos l.toArray j (by simpa using hj), getElem!_pos l.toArray i (by simp; omega)]
      simpa using this
    · have : i = j := by omega
      subst this
      exact ltP_irrefl _
  rw [compact_eq]
  unfold Rising
  rw [List.pairwise_map]
  refine List.Pairwise.imp_of_mem (R := fun i j => i < j) ?_ (List.Pairwise.filter _ List.pairwise_lt_range)
  intro i j hi hj hij
  have hjl := List.mem_range.1 (List.mem_filter.1 hj).1
  have hk := keeps_true (List.mem_filter.1 hj).2
  cases hlt : ltP l.toArray[i]! l.toArray[j]!
  · exfalso
    have e := ltP_total hlt (hle i j (by omega) hjl)
    rcases hk with hk | hk
    · omega
    · refine hk (ltP_total (hle (j - 1) j (by omega) hjl) ?_)
      rw [← e]
      exact hle i (j - 1) (by omega) (by omega)
  · rfl
theorem compact_sorted {l l' : List Pt} (hp : l'.Perm l) (hs : l'.Pairwise fun p q => ltP q p = false) : Lib.compact l' = sorted l :=
  rising_ext (rising_compact hs) (rising_sorted l) fun p => by rw [mem_compact, mem_sorted, hp.mem_iff]

/-- What the rules rs make of p. -/
def predsRow (p : Pt) (rs : List (Int × Int × Rl)) : List Pt := rs.filterMap fun sxr => before p sxr.1 sxr.2.1 sxr.2.2
theorem predsRow_length (p : Pt) (rs : List (Int × Int × Rl)) : (predsRow p rs).length ≤ rs.length := List.length_filterMap_le _ _
theorem predsRow_snoc (p : Pt) (rs : List (Int × Int × Rl)) (j x : Int) (q : Rl) : predsRow p (rs ++ [(j, x, q)]) = predsRow p rs ++ (before p j x q).toList := by
  unfold predsRow
  rw [List.filterMap_append, List.filterMap_cons, List.filterMap_nil]
  cases before p j x q <;> rfl
theorem predsL_nil (m : Mc) : predsL m [] = [] := rfl
theorem predsL_snoc (m : Mc) (l : List Pt) (p : Pt) : predsL m (l ++ [p]) = predsL m l ++ predsRow p (rulesOf m) := by simp [predsL, predsRow]
theorem predsL_take (m : Mc) (l : List Pt) (i : Nat) (h : i < l.length) : predsL m (l.take (i + 1)) = predsL m (l.take i) ++ predsRow l[i] (rulesOf m) := by
  rw [List.take_succ_eq_append_getElem h, predsL_snoc]
theorem predsL_length (m : Mc) (K : Nat) (hK : (rulesOf m).length ≤ K) (l : List Pt) : (predsL m l).length ≤ l.length * K := by
  induction l with
  | nil => simp [predsL]
  | cons p l ih =>
    have : predsL m (p :: l) = predsRow p (rulesOf m) ++ predsL m l := rfl
    rw [this, List.length_append, List.length_cons, Nat.succ_mul]
    have := predsRow_length p (rulesOf m)
    omega
theorem before_len {p r : Pt} {s x : Int} {q : Rl} (h : before p s x q = some r) : r.cells.length ≤ p.cells.length + 1 := by
  unfold before at h
  split at h
  · cases h
  · dsimp only at h
    split at h
    · injection h with h; subst h; simp
    · split at h
      · injection h with h; subst h; simp
      · split at h
        · cases h
        · injection h with h; subst h; simp
theorem predsL_len {m : Mc} {l : List Pt} (K : Nat) (h : ∀ p ∈ l, p.cells.length ≤ K) : ∀ p ∈ predsL m l, p.cells.length ≤ K + 1 := by
  intro p hp
  unfold predsL at hp
  obtain ⟨q, hq, hp⟩ := List.mem_flatMap.1 hp
  obtain ⟨sxr, _, hb⟩ := List.mem_filterMap.1 hp
  have := before_len hb
  have := h q hq
  omega
theorem levelL_len {m : Mc} : ∀ k, ∀ p ∈ levelL m k, p.cells.length ≤ k + 1
  | 0, p, hp => by
    obtain ⟨s, x, r, _, _, rfl⟩ := mem_firstL.1 hp
    simp
  | k + 1, p, hp => predsL_len (k + 1) (levelL_len k) p (mem_sorted.1 hp)
end Go.Proofs.Ytgnhlaonckognaa
