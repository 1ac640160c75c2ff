/- What the printed function ref11.Add computes: insertion into a rising list. Conditions: rising, lists shorter than 2^40, cells shorter than 2^47. -/
import Derived.Test.YtgnhlaonckognaaPrOrder
import Derived.Test.YtgnhlaonckognaaPBackLevelsx9
namespace Go.Proofs.Ytgnhlaonckognaa
open Go.RowKit Go.Proofs.YtgnhlaonckognaaW.PrintWords Go.Proofs.Ytgnhlaonckognaa.PBackLevels
set_option linter.unusedVariables false
set_option linter.unusedSimpArgs false

def toP (p : Pt) : S36 := ⟨p.state, p.head, p.cells⟩
theorem addP_left {a : List Pt} {p : Pt} (h : ∀ x ∈ a, ltP x p = true) (b : List Pt) : addP (a ++ b) p = a ++ addP b p := by
  induction a with
  | nil => rfl
  | cons q a ih =>
    show addP (q :: (a ++ b)) p = q :: (a ++ addP b p)
    rw [addP, if_pos (h q (by simp)), ih (fun x hx => h x (List.mem_cons_of_mem _ hx))]
theorem addP_at {l : List Pt} {p : Pt} (i : Nat) (hi : i ≤ l.length) (h0 : ∀ j, j < i → ltP (l.getD j default) p = true) (h1 : ∀ j, i ≤ j → j < l.length → ltP (l.getD j default) p = false) :
    addP l p = if i < l.length ∧ l.getD i default = p then l else l.take i ++ p :: l.drop i := by
  have ha : ∀ x ∈ l.take i, ltP x p = true := by
    intro x hx
    obtain ⟨j, hj, rfl⟩ := List.mem_iff_getElem.1 hx
    have hj' : j < i ∧ j < l.length := by simpa [List.length_take, Nat.lt_min] using hj
    have := h0 j hj'.1
    rw [List.getD_eq_getElem?_getD, List.getElem?_eq_getElem hj'.2] at this
    simpa using this
  have e : addP l p = l.take i ++ addP (l.drop i) p := by
    have := addP_left ha (l.drop i)
    rwa [List.take_append_drop] at this
  rw [e]
  by_cases hlt : i < l.length
  · have hd : l.drop i = l[i] :: l.drop (i + 1) := List.drop_eq_getElem_cons hlt
    have hg : l.getD i default = l[i] := by rw [List.getD_eq_getElem?_getD, List.getElem?_eq_getElem hlt]; rfl
    have hf := h1 i (Nat.le_refl _) hlt
    rw [hg] at hf ⊢
    rw [hd, addP, if_neg (by simp [hf])]
    by_cases hp : l[i] = p
    · rw [if_neg (by rw [hp, ltP_irrefl]; simp), if_pos ⟨hlt, hp⟩, ← hd, List.take_append_drop]
    · have : ltP p l[i] = true := by
        cases hh : ltP p l[i]
        · exact absurd (ltP_total hf hh) hp
        · rfl
      rw [if_pos this, if_neg (fun h => hp h.2)]
  · rw [if_neg (fun h => hlt h.1), List.drop_eq_nil_of_le (by omega)]
    rfl
theorem rd_toP (l : List Pt) (j : Int) (h0 : 0 ≤ j) (h1 : j < l.length) : rd_T36 (l.map toP) j = toP (l.getD j.toNat default) := by
  have hl : j.toNat < l.length := by omega
  unfold rd_T36
  simp [hl, List.getD_eq_getElem?_getD]

theorem mid_bound {lo hi : Int} (h0 : 0 ≤ lo) (h1 : lo < hi) (h2 : hi ≤ 1099511627776) : lo ≤ wrap64 (Int.tdiv (wrap64 (lo + hi)) 2) ∧ wrap64 (Int.tdiv (wrap64 (lo + hi)) 2) < hi := by
  have e1 : wrap64 (lo + hi) = lo + hi := by unfold wrap64; omega
  rw [e1, Int.tdiv_eq_ediv_of_nonneg (by omega)]
  have e2 : wrap64 ((lo + hi) / 2) = (lo + hi) / 2 := by unfold wrap64; omega
  rw [e2]
  omega
theorem add_l0 (l : List Pt) (p : Pt) (hr : Rising l) (hn : (l.length : Int) ≤ 1000000000) (hl : ∀ q ∈ l, (q.cells.length : Int) ≤ 140737488355328) (hp : (p.cells.length : Int) ≤ 140737488355328) (d : Nat) :
    ∀ lo hi : Int, 0 ≤ lo → lo ≤ hi → hi ≤ l.length → hi - lo ≤ d → (∀ j : Nat, (j : Int) < lo → ltP (l.getD j default) p = true) → (∀ j : Nat, hi ≤ (j : Int) → j < l.length → ltP (l.getD j default) p = false) →
      Ev (fun k => standstillref11_Add.l0 k (l.map toP) lo hi p.state p.head p.cells) ((addP l p).map toP) := by
  have hll : ((l.map toP).length : Int) = l.length := by rw [List.length_map]
  have hmem : ∀ i : Nat, i < l.length → l.getD i default ∈ l := fun i hi => by
    rw [List.getD_eq_getElem?_getD, List.getElem?_eq_getElem hi]; exact List.getElem_mem hi
  have hmono : ∀ i j : Nat, i < j → j < l.length → ltP (l.getD i default) (l.getD j default) = true := fun i j hij hj => by
    have := List.pairwise_iff_getElem.1 hr i j (by omega) hj hij
    rw [List.getD_eq_getElem?_getD, List.getElem?_eq_getElem (by omega), List.getD_eq_getElem?_getD, List.getElem?_eq_getElem hj]
    exact this
  induction d with
  | zero =>
    intro lo hi h0 h1 h2 hd hlo hhi
    have e : lo = hi := by omega
    subst e
    obtain ⟨i, hi'⟩ : ∃ i : Nat, lo = i := ⟨lo.toNat, by omega⟩
    subst hi'
    rw [addP_at i (by omega) (fun j hj => hlo j (by omega)) (fun j h3 h4 => hhi j (by omega) h4)]
    by_cases hlt : (i : Int) < l.length
    · have hs := same_f (l.getD i default) p (hl _ (hmem i (by omega))) hp
      refine Ev.step (f := fun k => (standstillref11_Same.f k (l.getD i default).state (l.getD i default).head (l.getD i default).cells p.state p.head p.cells).bind fun t => if t = true then some (l.map toP) else some (((l.take i).map toP ++ [toP p]) ++ (l.drop i).map toP)) (fun k => ?_) ?_
      · simp only [standstillref11_Add.l0, hll]
        rw [if_neg (by omega), if_pos hlt, if_pos h0, rd_toP l i h0 hlt, Int.toNat_natCast]
        simp only [toP, Option.bind_some, List.nil_append, List.length_nil]
        congr 1
        funext t
        by_cases ht : t = true
        · rw [if_pos ht, if_pos ht]
        · rw [if_neg ht, if_neg ht, if_pos (by omega), if_pos (by simp; omega), if_pos (by simp; omega), if_pos (by simp; omega)]
          simp
      · refine Ev.bind (f := fun k t => if t = true then some (l.map toP) else some (((l.take i).map toP ++ [toP p]) ++ (l.drop i).map toP)) hs ?_
        by_cases he : l.getD i default = p
        · rw [decide_eq_true he, if_pos rfl, if_pos ⟨by omega, he⟩]
          exact Ev.now _
        · rw [decide_eq_false he, if_neg (by simp), if_neg (fun h => he h.2)]
          have : (l.take i ++ p :: l.drop i).map toP = ((l.take i).map toP ++ [toP p]) ++ (l.drop i).map toP := by simp
          rw [this]
          exact Ev.now _
    · have hil : i = l.length := by omega
      rw [if_neg (fun h => by omega)]
      refine Ev.step (f := fun _ => some ((l.take i ++ p :: l.drop i).map toP)) (fun k => ?_) (Ev.now _)
      simp only [standstillref11_Add.l0, hll]
      rw [if_neg (by omega), if_neg hlt]
      simp only [Option.bind_some, List.nil_append, List.length_nil]
      rw [if_pos h0, if_pos (by omega), if_pos (by simp; omega), if_pos (by simp; omega), if_pos (by simp; omega)]
      simp [toP]
  | succ d ih =>
    intro lo hi h0 h1 h2 hd hlo hhi
    by_cases hlt : lo < hi
    · obtain ⟨m0, m1⟩ := mid_bound h0 hlt (by omega)
      refine Ev.step (f := fun k => (standstillref11_Less.f k (l.getD (wrap64 (Int.tdiv (wrap64 (lo + hi)) 2)).toNat default).state (l.getD (wrap64 (Int.tdiv (wrap64 (lo + hi)) 2)).toNat default).head (l.getD (wrap64 (Int.tdiv (wrap64 (lo + hi)) 2)).toNat default).cells p.state p.head p.cells).bind fun t => if t = true then standstillref11_Add.l0 k (l.map toP) (wrap64 ((wrap64 (Int.tdiv (wrap64 (lo + hi)) 2)) + 1)) hi p.state p.head p.cells else standstillref11_Add.l0 k (l.map toP) lo (wrap64 (Int.tdiv (wrap64 (lo + hi)) 2)) p.state p.head p.cells) (fun k => ?_) ?_
      · simp only [standstillref11_Add.l0, hll]
        rw [if_pos hlt, if_pos (by omega), if_pos (by omega), rd_toP l _ (by omega) (by omega)]
        rfl
      · generalize wrap64 (Int.tdiv (wrap64 (lo + hi)) 2) = mid at *
        obtain ⟨i, rfl⟩ : ∃ i : Nat, mid = i := ⟨mid.toNat, by omega⟩
        rw [Int.toNat_natCast]
        have e1 : wrap64 ((i : Int) + 1) = i + 1 := by unfold wrap64; omega
        rw [e1]
        refine Ev.bind (f := fun k t => if t = true then standstillref11_Add.l0 k (l.map toP) ((i : Int) + 1) hi p.state p.head p.cells else standstillref11_Add.l0 k (l.map toP) lo (i : Int) p.state p.head p.cells) (less_f (l.getD i default) p (hl _ (hmem i (by omega)))) ?_
        cases ht : ltP (l.getD i default) p
        · simp only [Bool.false_eq_true, if_false]
          refine ih lo i h0 (by omega) (by omega) (by omega) hlo (fun j h3 h4 => ?_)
          by_cases e : j = i
          · subst e; exact ht
          · cases hh : ltP (l.getD j default) p
            · rfl
            · have := ltP_trans (hmono i j (by omega) h4) hh
              rw [ht] at this; exact absurd this (by simp)
        · simp only [if_true]
          refine ih (i + 1) hi (by omega) (by omega) h2 (by omega) (fun j h3 => ?_) hhi
          by_cases e : j = i
          · subst e; exact ht
          · exact ltP_trans (hmono j i (by omega) (by omega)) ht
    · have e : lo = hi := by omega
      exact ih lo hi h0 h1 h2 (by omega) hlo hhi
theorem add_f (l : List Pt) (p : Pt) (hr : Rising l) (hn : (l.length : Int) ≤ 1000000000) (hl : ∀ q ∈ l, (q.cells.length : Int) ≤ 140737488355328) (hp : (p.cells.length : Int) ≤ 140737488355328) :
    Ev (fun k => standstillref11_Add.f k (l.map toP) p.state p.head p.cells) ((addP l p).map toP) := by
  unfold standstillref11_Add.f
  have := add_l0 l p hr hn hl hp l.length 0 l.length (Int.le_refl _) (by omega) (Int.le_refl _) (by omega) (fun j hj => absurd hj (by omega)) (fun j h3 h4 => absurd h4 (by omega))
  simpa using this
end Go.Proofs.Ytgnhlaonckognaa
