/- Plain laws of the reference's levels, of the answers of Check and Find, and of mirrored machines. Conditions: none. -/
import Derived.Test.YtgnhlaonckognaaRunPlain
namespace Go.Proofs.Ytgnhlaonckognaa
set_option linter.unusedVariables false
set_option linter.unusedSimpArgs false

/-! ### Level 0 is rising -/
def ltR (a b : Int × Int × Rl) : Prop := a.1 < b.1 ∨ (a.1 = b.1 ∧ a.2.1 < b.2.1)
theorem enum_pairwise {α : Type} (l : List α) : (enumFrom' l).Pairwise fun a b => a.1 < b.1 := by
  rw [List.pairwise_iff_getElem]
  intro i j hi hj hij
  simp [enumFrom']
  omega
theorem rulesOf_pairwise (m : Mc) : (rulesOf m).Pairwise ltR := by
  unfold rulesOf
  rw [List.pairwise_flatMap]
  constructor
  · intro sr _
    rw [List.pairwise_map]
    exact (enum_pairwise sr.2).imp fun h => .inr ⟨rfl, h⟩
  · refine (enum_pairwise m.rules).imp fun h => ?_
    intro x hx y hy
    obtain ⟨_, _, rfl⟩ := List.mem_map.1 hx
    obtain ⟨_, _, rfl⟩ := List.mem_map.1 hy
    exact .inl h
theorem firstL_rising (m : Mc) : Rising (firstL m) := by
  unfold firstL Rising
  refine List.Pairwise.filterMap _ ?_ (rulesOf_pairwise m)
  intro a a' h b hb b' hb'
  unfold firstOf at hb hb'
  split at hb
  · split at hb'
    · simp only [Option.some.injEq] at hb hb'
      subst hb; subst hb'
      simp only [ltP, cmpP, decide_eq_true_eq]
      rcases h with h | ⟨h1, h2⟩
      · rw [if_pos (by unfold cmpI; rw [if_pos h]; omega)]
        exact cmpI_lt.2 h
      · rw [if_neg (by simpa using cmpI_zero.2 h1), if_neg (by simpa using cmpI_zero.2 rfl)]
        simp only [cmpL]
        have := cmpI_lt.2 h2
        rw [if_pos (by omega)]
        exact this
    · simp at hb'
  · simp at hb
theorem levelL_rising (m : Mc) : ∀ k, Rising (levelL m k)
  | 0 => firstL_rising m
  | k + 1 => rising_sorted _

/-! ### What the reference's Level answers -/
def rlevelR (m : Mc) (k most : Nat) : Option (List Pt) := if ∀ j, j ≤ k → (levelL m j).length ≤ most then some (levelL m k) else none
theorem sorted_rising {l : List Pt} (h : Rising l) : sorted l = l := rising_ext (rising_sorted l) h fun p => mem_sorted

/-! ### Find -/
def stopsB (m : Mc) (k : Nat) : Bool := decide ((runC m k blank).state = -1)
def findL (m : Mc) : Nat → Nat → Option Nat
  | 0, _ => none
  | d + 1, i => if 2000 < (levelL m i).length then none else if levelL m i = [] then (if stopsB m i then none else some i) else findL m d (i + 1)
def provesB (m : Mc) (k : Nat) : Bool := decide (levelL m k = []) && !stopsB m k
theorem stopsB_mono {m : Mc} {a b : Nat} (h : a ≤ b) (ha : stopsB m a = true) : stopsB m b = true := by
  unfold stopsB at *
  simp only [decide_eq_true_eq] at *
  rw [runC_stop_mono h ha]; exact ha
/-- The least number that proves, if the levels up to it are small. -/
theorem findL_some {m : Mc} {n : Nat} (hn : provesB m n = true) (hlt : ∀ j, j < n → provesB m j = false) (hs : ∀ j, j ≤ n → (levelL m j).length ≤ 2000) :
    ∀ d i, i ≤ n → n < i + d → findL m d i = some n := by
  have hl : levelL m n = [] ∧ stopsB m n = false := by unfold provesB at hn; simpa using hn
  intro d
  induction d with
  | zero => intro i h1 h2; omega
  | succ d ih =>
    intro i h1 h2
    have hsi := hs i h1
    unfold findL
    rw [if_neg (by omega)]
    by_cases e : i = n
    · subst e
      rw [if_pos hl.1, hl.2]
      rfl
    · have hp := hlt i (by omega)
      have hne : levelL m i ≠ [] := by
        intro h0
        unfold provesB at hp
        rw [h0] at hp
        have hp2 : stopsB m i = true := by simpa using hp
        have := stopsB_mono h1 hp2
        rw [hl.2] at this
        exact absurd this (by simp)
      rw [if_neg hne]
      exact ih (i + 1) (by omega) (by omega)
theorem findL_none {m : Mc} : ∀ d i, (∀ j, i ≤ j → j < i + d → provesB m j = false) → findL m d i = none := by
  intro d
  induction d with
  | zero => intro i _; rfl
  | succ d ih =>
    intro i h
    have hp := h i (Nat.le_refl _) (by omega)
    unfold findL
    split
    · rfl
    · split
      · rename_i h1
        unfold provesB at hp
        rw [h1] at hp
        have hp2 : stopsB m i = true := by simpa using hp
        rw [hp2]; rfl
      · exact ih (i + 1) fun j h1 h2 => h j (by omega) (by omega)

/-! ### Mirrored machines -/
def Rl.mir (r : Rl) : Rl := { r with move := - r.move }
def Mc.mir (m : Mc) : Mc := { m with rules := m.rules.map fun row => row.map Rl.mir }
def Pt.mir (p : Pt) : Pt := ⟨p.state, p.cells.length - 1 - p.head, p.cells.reverse⟩
theorem Mc.mir_good {m : Mc} (h : m.Good) : m.mir.Good := by
  refine ⟨h.s0, h.s1, h.y0, h.y1, by show ((m.rules.map _).length : Int) = _; rw [List.length_map]; exact h.len, ?_, ?_⟩
  · intro row hr
    obtain ⟨row', hr', rfl⟩ := List.mem_map.1 hr
    rw [List.length_map]; exact h.row _ hr'
  · intro row hr r hrr
    obtain ⟨row', hr', rfl⟩ := List.mem_map.1 hr
    obtain ⟨r', hrr', rfl⟩ := List.mem_map.1 hrr
    have := h.rule _ hr' _ hrr'
    exact ⟨this.w0, this.w1, by show - r'.move = -1 ∨ - r'.move = 1; rcases this.mv with e | e <;> omega, this.n0, this.n1⟩
theorem Mc.mir_mir (m : Mc) : m.mir.mir = m := by
  unfold Mc.mir
  cases m
  rename_i st sy rules
  simp only [List.map_map, Mc.mk.injEq, true_and]
  have e : (fun row : List Rl => row.map Rl.mir) ∘ (fun row : List Rl => row.map Rl.mir) = id := by
    funext row
    show (row.map Rl.mir).map Rl.mir = row
    rw [List.map_map]
    have : Rl.mir ∘ Rl.mir = id := by
      funext r
      cases r
      simp [Rl.mir]
    rw [this, List.map_id]
  rw [e, List.map_id]
theorem Mc.mir_ok (m : Mc) : m.mir.ok = m.ok := by
  rw [Bool.eq_iff_iff, Mc.good_iff, Mc.good_iff]
  exact ⟨fun h => by have := Mc.mir_good h; rwa [Mc.mir_mir] at this, Mc.mir_good⟩
theorem reverse_set' (l : List Int) (i : Nat) (v : Int) (h : i < l.length) : (l.set i v).reverse = l.reverse.set (l.length - 1 - i) v := by
  refine List.ext_getElem (by simp) fun j h1 h2 => ?_
  simp only [List.getElem_reverse, List.getElem_set, List.length_set]
  have h3 : j < l.length := by simpa using h1
  by_cases e : i = l.length - 1 - j
  · rw [if_pos e, if_pos (by omega)]
  · rw [if_neg e, if_neg (by omega)]
theorem mem_rulesOf_mir {m : Mc} {s x : Int} {r : Rl} : (s, x, r) ∈ rulesOf m.mir ↔ ∃ r', r = r'.mir ∧ (s, x, r') ∈ rulesOf m := by
  rw [mem_rulesOf]
  constructor
  · rintro ⟨h0, h1, row, h2, h3⟩
    have h2' : (m.rules.map fun row => row.map Rl.mir)[s.toNat]? = some row := h2
    rw [List.getElem?_map] at h2'
    cases e : m.rules[s.toNat]? with
    | none => rw [e] at h2'; simp at h2'
    | some row' =>
      rw [e] at h2'
      simp only [Option.map_some, Option.some.injEq] at h2'
      subst h2'
      rw [List.getElem?_map] at h3
      cases e2 : row'[x.toNat]? with
      | none => rw [e2] at h3; simp at h3
      | some r' =>
        rw [e2] at h3
        simp only [Option.map_some, Option.some.injEq] at h3
        exact ⟨r', h3.symm, mem_rulesOf.2 ⟨h0, h1, row', e, e2⟩⟩
  · rintro ⟨r', rfl, h⟩
    obtain ⟨h0, h1, row, h2, h3⟩ := mem_rulesOf.1 h
    refine ⟨h0, h1, row.map Rl.mir, ?_, ?_⟩
    · show (m.rules.map fun row => row.map Rl.mir)[s.toNat]? = _
      rw [List.getElem?_map, h2]; rfl
    · rw [List.getElem?_map, h3]; rfl
theorem Pt.mir_mir {p : Pt} : p.mir.mir = p := by
  unfold Pt.mir
  cases p
  simp
  omega
theorem Pt.mir_ok {p : Pt} (h : p.Ok) : p.mir.Ok := by
  have h0 := h.h0; have h1 := h.h1
  exact ⟨by show (0 : Int) ≤ p.cells.length - 1 - p.head; omega, by show p.cells.length - 1 - p.head < ((p.cells.reverse).length : Int); rw [List.length_reverse]; omega⟩
theorem before_mir {p : Pt} {s x : Int} {r : Rl} (hp : p.Ok) (hr : r.move = -1 ∨ r.move = 1) : before p.mir s x r.mir = (before p s x r).map Pt.mir := by
  have h0 := hp.h0; have h1 := hp.h1
  unfold before
  by_cases hn : r.next ≠ p.state
  · rw [if_pos (show r.mir.next ≠ p.mir.state from hn), if_pos hn]; rfl
  · rw [if_neg (show ¬ r.mir.next ≠ p.mir.state from hn), if_neg hn]
    dsimp only
    have e0 : p.mir.head - r.mir.move = p.cells.length - 1 - (p.head - r.move) := by show (p.cells.length : Int) - 1 - p.head - (- r.move) = _; omega
    have e1 : (p.mir.cells.length : Int) = p.cells.length := by show ((p.cells.reverse).length : Int) = _; rw [List.length_reverse]
    rw [e0, e1]
    by_cases a1 : p.head - r.move < 0
    · have hm : p.head - r.move = -1 := by omega
      rw [if_neg (by omega), if_pos (by omega), if_pos a1]
      simp only [Option.map_some, Pt.mir, Option.some.injEq, Pt.mk.injEq, List.reverse_cons, List.length_cons, true_and, and_true]
      omega
    · by_cases a2 : p.head - r.move = p.cells.length
      · rw [if_pos (by omega), if_neg a1, if_pos a2]
        simp only [Option.map_some, Pt.mir, Option.some.injEq, Pt.mk.injEq, List.reverse_append, List.length_append, true_and]
        refine ⟨by simp; omega, by simp⟩
      · rw [if_neg (by omega), if_neg (by omega), if_neg a1, if_neg a2]
        have hlt : (p.head - r.move).toNat < p.cells.length := by omega
        have e2 : ((p.cells.length : Int) - 1 - (p.head - r.move)).toNat = p.cells.length - 1 - (p.head - r.move).toNat := by omega
        rw [e2]
        have e3 : p.mir.cells.getD (p.cells.length - 1 - (p.head - r.move).toNat) 0 = p.cells.getD (p.head - r.move).toNat 0 := by
          show (p.cells.reverse).getD _ 0 = _
          rw [List.getD_eq_getElem?_getD, List.getD_eq_getElem?_getD, List.getElem?_reverse (by omega)]
          congr 2
          omega
        rw [e3]
        by_cases a3 : p.cells.getD (p.head - r.move).toNat 0 ≠ r.write
        · rw [if_pos (show _ ≠ r.mir.write from a3), if_pos a3]; rfl
        · rw [if_neg (show ¬ _ ≠ r.mir.write from a3), if_neg a3]
          simp only [Option.map_some, Pt.mir, Option.some.injEq, Pt.mk.injEq, List.length_set, true_and]
          exact (reverse_set' _ _ _ hlt).symm
theorem levelL_mir {m : Mc} (hm : m.Good) : ∀ k p, p ∈ levelL m.mir k ↔ ∃ q ∈ levelL m k, p = q.mir
  | 0, p => by
    show p ∈ firstL m.mir ↔ ∃ q ∈ firstL m, p = q.mir
    rw [mem_firstL]
    constructor
    · rintro ⟨s, x, r, h1, h2, rfl⟩
      obtain ⟨r', rfl, h3⟩ := mem_rulesOf_mir.1 h1
      exact ⟨⟨s, 0, [x]⟩, mem_firstL.2 ⟨s, x, r', h3, h2, rfl⟩, by simp [Pt.mir]⟩
    · rintro ⟨q, hq, rfl⟩
      obtain ⟨s, x, r, h1, h2, rfl⟩ := mem_firstL.1 hq
      exact ⟨s, x, r.mir, mem_rulesOf_mir.2 ⟨r, rfl, h1⟩, h2, by simp [Pt.mir]⟩
  | k + 1, p => by
    show p ∈ sorted (predsL m.mir (levelL m.mir k)) ↔ ∃ q ∈ sorted (predsL m (levelL m k)), p = q.mir
    simp only [mem_sorted]
    rw [mem_predsL]
    constructor
    · rintro ⟨q, hq, s, x, r, h1, h2⟩
      obtain ⟨q', hq', rfl⟩ := (levelL_mir hm k q).1 hq
      obtain ⟨r', rfl, h3⟩ := mem_rulesOf_mir.1 h1
      obtain ⟨_, _, row, h4, h5⟩ := mem_rulesOf.1 h3
      rw [before_mir (levelL_ok hm k q' hq') (hm.rule row (List.mem_of_getElem? h4) r' (List.mem_of_getElem? h5)).mv] at h2
      obtain ⟨p', h6, rfl⟩ := Option.map_eq_some_iff.1 h2
      exact ⟨p', mem_predsL.2 ⟨q', hq', s, x, r', h3, h6⟩, rfl⟩
    · rintro ⟨p', hp', rfl⟩
      obtain ⟨q, hq, s, x, r, h1, h2⟩ := mem_predsL.1 hp'
      refine ⟨q.mir, (levelL_mir hm k q.mir).2 ⟨q, hq, rfl⟩, s, x, r.mir, mem_rulesOf_mir.2 ⟨r, rfl, h1⟩, ?_⟩
      obtain ⟨_, _, row, h4, h5⟩ := mem_rulesOf.1 h1
      rw [before_mir (levelL_ok hm k q hq) (hm.rule row (List.mem_of_getElem? h4) r (List.mem_of_getElem? h5)).mv, h2]
      rfl
theorem levelL_mir_eq {m : Mc} (hm : m.Good) (k : Nat) : levelL m.mir k = sorted ((levelL m k).map Pt.mir) := by
  refine rising_ext (levelL_rising _ k) (rising_sorted _) fun p => ?_
  rw [mem_sorted, levelL_mir hm, List.mem_map]
  constructor
  · rintro ⟨q, h, rfl⟩; exact ⟨q, h, rfl⟩
  · rintro ⟨q, h, rfl⟩; exact ⟨q, h, rfl⟩
theorem rising_nodup {l : List Pt} (h : Rising l) : l.Nodup := h.imp fun {a b} h e => by subst e; rw [ltP_irrefl] at h; exact absurd h (by simp)
theorem nodup_length_le : ∀ {a b : List Pt}, a.Nodup → (∀ x ∈ a, x ∈ b) → a.length ≤ b.length
  | [], _, _, _ => Nat.zero_le _
  | x :: a, b, hn, h => by
    have hx : x ∈ b := h x (by simp)
    have hn' := List.nodup_cons.1 hn
    have := nodup_length_le (a := a) (b := b.erase x) hn'.2 fun y hy => by
      have hyb := h y (List.mem_cons_of_mem _ hy)
      exact (List.mem_erase_of_ne (fun e => hn'.1 (by rw [← e]; exact hy))).2 hyb
    rw [List.length_erase_of_mem hx] at this
    have : 0 < b.length := List.length_pos_of_mem hx
    simp only [List.length_cons]; omega
theorem levelL_mir_length {m : Mc} (hm : m.Good) (k : Nat) : (levelL m.mir k).length = (levelL m k).length := by
  have h1 : (levelL m.mir k).length ≤ ((levelL m k).map Pt.mir).length :=
    nodup_length_le (rising_nodup (levelL_rising _ k)) fun x hx => by
      obtain ⟨q, hq, rfl⟩ := (levelL_mir hm k x).1 hx
      exact List.mem_map.2 ⟨q, hq, rfl⟩
  have h2 : (levelL m k).length ≤ ((levelL m.mir k).map Pt.mir).length :=
    nodup_length_le (rising_nodup (levelL_rising _ k)) fun x hx => 
      List.mem_map.2 ⟨x.mir, (levelL_mir hm k _).2 ⟨x, hx, rfl⟩, Pt.mir_mir⟩
  rw [List.length_map] at h1 h2
  omega
/-- Mirrored configurations. -/
def Cf.mir (c : Cf) : Cf := ⟨c.state, - c.pos, fun i => c.tape (- i)⟩
theorem ruleAt_mir (m : Mc) (s x : Int) : (ruleAt m.mir s x).write = (ruleAt m s x).write ∧ (ruleAt m.mir s x).move = - (ruleAt m s x).move ∧ (ruleAt m.mir s x).next = (ruleAt m s x).next := by
  have e : ruleAt m.mir s x = (ruleAt m s x).mir := by
    unfold ruleAt Mc.mir
    simp only [List.getD_eq_getElem?_getD, List.getElem?_map]
    cases m.rules[s.toNat]? with
    | none => rfl
    | some row =>
      simp only [Option.map_some, Option.getD_some, List.getElem?_map]
      cases row[x.toNat]? with
      | none => rfl
      | some r => rfl
  rw [e]
  exact ⟨rfl, rfl, rfl⟩
theorem stepC_mir (m : Mc) (c : Cf) : stepC m.mir c.mir = (stepC m c).mir := by
  have h := ruleAt_mir m c.state (c.tape c.pos)
  have e : c.mir.tape c.mir.pos = c.tape c.pos := by show c.tape (- - c.pos) = _; rw [Int.neg_neg]
  unfold stepC
  rw [e, show c.mir.state = c.state from rfl, h.1, h.2.1, h.2.2]
  refine Cf.mk.injEq .. ▸ ⟨rfl, ?_, ?_⟩
  · show - c.pos + - _ = - (c.pos + _); omega
  · funext i
    show (if i = - c.pos then _ else c.tape (- i)) = (if - i = c.pos then _ else c.tape (- i))
    by_cases h : i = - c.pos
    · rw [if_pos h, if_pos (by omega)]
    · rw [if_neg h, if_neg (by omega)]
theorem runC_mir (m : Mc) : ∀ n c, runC m.mir n (Cf.mir c) = (runC m n c).mir
  | 0, c => rfl
  | n + 1, c => by
    have e : stepS m.mir c.mir = (stepS m c).mir := by
      unfold stepS
      by_cases h : c.state = -1
      · rw [if_pos h, if_pos (show c.mir.state = -1 from h)]
      · rw [if_neg h, if_neg (show ¬ c.mir.state = -1 from h), stepC_mir]
    show runC m.mir n (stepS m.mir c.mir) = _
    rw [e, runC_mir m n]
    rfl
theorem stopsB_mir (m : Mc) (n : Nat) : stopsB m.mir n = stopsB m n := by
  have : runC m.mir n blank = (runC m n blank).mir := runC_mir m n blank
  unfold stopsB
  rw [this]
  rfl
theorem findL_mir {m : Mc} (hm : m.Good) : ∀ d i, findL m.mir d i = findL m d i
  | 0, _ => rfl
  | d + 1, i => by
    unfold findL
    have hl := levelL_mir_length hm i
    have he : (levelL m.mir i = []) ↔ (levelL m i = []) := by rw [← List.length_eq_zero_iff, hl, List.length_eq_zero_iff]
    simp only [hl, he, stopsB_mir, findL_mir hm d]

end Go.Proofs.Ytgnhlaonckognaa
