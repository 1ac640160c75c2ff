/- Plain laws of backward reasoning: machines, partial configurations, their order, levels; no Go, no memory. Conditions: none. -/
namespace Go.Proofs.Ytgnhlaonckognaa

/-- A rule of a machine. -/
structure Rl where
  write : Int
  move : Int
  next : Int
deriving DecidableEq, Inhabited

/-- A machine as data. -/
structure Mc where
  states : Int
  symbols : Int
  rules : List (List Rl)
deriving Inhabited

/-- A partial configuration as data. -/
structure Pt where
  state : Int
  head : Int
  cells : List Int
deriving DecidableEq, Inhabited

def Rl.ok (st sy : Int) (r : Rl) : Bool := decide (0 ≤ r.write ∧ r.write < sy ∧ (r.move = -1 ∨ r.move = 1) ∧ -1 ≤ r.next ∧ r.next < st)
def Mc.ok (m : Mc) : Bool :=
  decide (1 ≤ m.states ∧ m.states ≤ 6 ∧ 2 ≤ m.symbols ∧ m.symbols ≤ 4 ∧ (m.rules.length : Int) = m.states) &&
    m.rules.all fun row => decide ((row.length : Int) = m.symbols) && row.all (Rl.ok m.states m.symbols)

/-! ### The order -/
def cmpI (a b : Int) : Int := if a < b then -1 else if b < a then 1 else 0
def cmpL : List Int → List Int → Int
  | [], [] => 0
  | [], _ :: _ => -1
  | _ :: _, [] => 1
  | a :: as, b :: bs => if cmpI a b ≠ 0 then cmpI a b else cmpL as bs
def cmpP (p q : Pt) : Int :=
  if cmpI p.state q.state ≠ 0 then cmpI p.state q.state else if cmpI p.head q.head ≠ 0 then cmpI p.head q.head else cmpL p.cells q.cells
def ltP (p q : Pt) : Bool := decide (cmpP p q < 0)

theorem cmpI_neg (a b : Int) : cmpI b a = - cmpI a b := by unfold cmpI; split <;> split <;> (try split) <;> omega
theorem cmpI_zero {a b : Int} : cmpI a b = 0 ↔ a = b := by unfold cmpI; split <;> (try split) <;> omega
theorem cmpI_lt {a b : Int} : cmpI a b < 0 ↔ a < b := by unfold cmpI; split <;> (try split) <;> omega
theorem cmpI_one (a b : Int) : cmpI a b = -1 ∨ cmpI a b = 0 ∨ cmpI a b = 1 := by unfold cmpI; split <;> (try split) <;> omega

theorem cmpL_neg : ∀ a b : List Int, cmpL b a = - cmpL a b
  | [], [] => rfl
  | [], _ :: _ => rfl
  | _ :: _, [] => rfl
  | a :: as, b :: bs => by
    simp only [cmpL]; rw [cmpI_neg a b]
    by_cases h : cmpI a b = 0
    · simp [h, cmpL_neg as bs]
    · rw [if_pos h, if_pos (by omega)]
theorem cmpL_zero : ∀ {a b : List Int}, cmpL a b = 0 ↔ a = b
  | [], [] => by simp [cmpL]
  | [], _ :: _ => by simp [cmpL]
  | _ :: _, [] => by simp [cmpL]
  | a :: as, b :: bs => by
    simp only [cmpL]
    by_cases h : cmpI a b = 0
    · have e := cmpI_zero.1 h; subst e
      rw [if_neg (by simpa using h), cmpL_zero (a := as) (b := bs)]; simp
    · rw [if_pos h]
      constructor
      · intro h'; exact absurd h' h
      · intro h'; injection h' with h1 h2; exact absurd (cmpI_zero.2 h1) h
theorem cmpL_trans : ∀ {a b c : List Int}, cmpL a b < 0 → cmpL b c < 0 → cmpL a c < 0
  | [], [], c, h, _ => by simp [cmpL] at h
  | [], _ :: _, [], _, h => by simp [cmpL] at h
  | [], _ :: _, _ :: _, _, _ => by simp [cmpL]
  | _ :: _, [], _, h, _ => by simp [cmpL] at h
  | _ :: _, _ :: _, [], _, h => by simp [cmpL] at h
  | a :: as, b :: bs, c :: cs, h1, h2 => by
    simp only [cmpL] at *
    by_cases e1 : cmpI a b = 0
    · have := cmpI_zero.1 e1; subst this
      rw [if_neg (by simpa using e1)] at h1
      by_cases e2 : cmpI a c = 0
      · rw [if_neg (by simpa using e2)] at h2 ⊢
        exact cmpL_trans h1 h2
      · rw [if_pos e2] at h2 ⊢; exact h2
    · rw [if_pos e1] at h1
      by_cases e2 : cmpI b c = 0
      · have := cmpI_zero.1 e2; subst this
        rw [if_pos e1]; exact h1
      · rw [if_pos e2] at h2
        have := cmpI_lt.1 h1; have := cmpI_lt.1 h2
        have h3 : cmpI a c < 0 := cmpI_lt.2 (by omega)
        rw [if_pos (by omega)]; exact h3

theorem cmpP_neg (p q : Pt) : cmpP q p = - cmpP p q := by
  unfold cmpP; rw [cmpI_neg p.state q.state, cmpI_neg p.head q.head, cmpL_neg p.cells q.cells]
  by_cases h : cmpI p.state q.state = 0
  · by_cases h' : cmpI p.head q.head = 0
    · simp [h, h']
    · simp [h, h']
  · simp [h]
theorem cmpP_zero {p q : Pt} : cmpP p q = 0 ↔ p = q := by
  unfold cmpP
  constructor
  · intro h
    split at h
    · rename_i h1; exact absurd h h1
    · rename_i h1
      split at h
      · rename_i h2; exact absurd h h2
      · rename_i h2
        have e1 := cmpI_zero.1 (Decidable.not_not.1 h1); have e2 := cmpI_zero.1 (Decidable.not_not.1 h2); have e3 := cmpL_zero.1 h
        cases p; cases q; simp_all
  · rintro rfl
    simp [cmpI_zero.2, cmpL_zero.2]
theorem cmpP_trans {p q r : Pt} (h1 : cmpP p q < 0) (h2 : cmpP q r < 0) : cmpP p r < 0 := by
  unfold cmpP at *
  by_cases e1 : cmpI p.state q.state = 0
  · have s1 := cmpI_zero.1 e1
    rw [if_neg (by simpa using e1)] at h1
    rw [s1]
    by_cases e2 : cmpI q.state r.state = 0
    · rw [if_neg (by simpa using e2)] at h2 ⊢
      by_cases e3 : cmpI p.head q.head = 0
      · have s3 := cmpI_zero.1 e3
        rw [if_neg (by simpa using e3)] at h1
        rw [s3]
        by_cases e4 : cmpI q.head r.head = 0
        · rw [if_neg (by simpa using e4)] at h2 ⊢
          exact cmpL_trans h1 h2
        · rw [if_pos e4] at h2 ⊢; exact h2
      · rw [if_pos e3] at h1
        by_cases e4 : cmpI q.head r.head = 0
        · have s4 := cmpI_zero.1 e4
          rw [← s4, if_pos e3]; exact h1
        · rw [if_pos e4] at h2
          have := cmpI_lt.1 h1; have := cmpI_lt.1 h2
          have h3 : cmpI p.head r.head < 0 := cmpI_lt.2 (by omega)
          rw [if_pos (by omega)]; exact h3
    · rw [if_pos e2] at h2 ⊢; exact h2
  · rw [if_pos e1] at h1
    by_cases e2 : cmpI q.state r.state = 0
    · have s2 := cmpI_zero.1 e2
      rw [← s2, if_pos e1]; exact h1
    · rw [if_pos e2] at h2
      have := cmpI_lt.1 h1; have := cmpI_lt.1 h2
      have h3 : cmpI p.state r.state < 0 := cmpI_lt.2 (by omega)
      rw [if_pos (by omega)]; exact h3

theorem ltP_irrefl (p : Pt) : ltP p p = false := by simp [ltP, cmpP_zero.2 rfl]
theorem ltP_trans {p q r : Pt} (h1 : ltP p q = true) (h2 : ltP q r = true) : ltP p r = true := by
  simp only [ltP, decide_eq_true_eq] at *; exact cmpP_trans h1 h2
theorem ltP_total {p q : Pt} (h1 : ltP p q = false) (h2 : ltP q p = false) : p = q := by
  simp only [ltP, decide_eq_false_iff_not] at *
  rw [cmpP_neg p q] at h2
  exact cmpP_zero.1 (by omega)
theorem ltP_asymm {p q : Pt} (h : ltP p q = true) : ltP q p = false := by
  simp only [ltP, decide_eq_true_eq, decide_eq_false_iff_not] at *
  rw [cmpP_neg p q]; omega
theorem ltP_ntrans {p q r : Pt} (h1 : ltP p q = false) (h2 : ltP q r = false) : ltP p r = false := by
  cases h : ltP p r
  · rfl
  · exfalso
    cases h3 : ltP q p
    · have := ltP_total h1 h3; subst this; rw [h] at h2; exact absurd h2 (by simp)
    · have := ltP_trans h3 h; rw [this] at h2; exact absurd h2 (by simp)

/-! ### Rising lists -/
def Rising (l : List Pt) : Prop := l.Pairwise fun p q => ltP p q = true

theorem rising_ext : ∀ {a b : List Pt}, Rising a → Rising b → (∀ p, p ∈ a ↔ p ∈ b) → a = b
  | [], [], _, _, _ => rfl
  | [], b :: bs, _, _, h => absurd ((h b).2 (by simp)) (by simp)
  | a :: as, [], _, _, h => absurd ((h a).1 (by simp)) (by simp)
  | a :: as, b :: bs, ha, hb, h => by
    have ha' := List.pairwise_cons.1 ha
    have hb' := List.pairwise_cons.1 hb
    have e : a = b := by
      have h1 : a ∈ b :: bs := (h a).1 (by simp)
      have h2 : b ∈ a :: as := (h b).2 (by simp)
      rcases List.mem_cons.1 h1 with h1 | h1
      · exact h1
      · rcases List.mem_cons.1 h2 with h2 | h2
        · exact h2.symm
        · have := hb'.1 a h1; have h4 := ha'.1 b h2
          rw [ltP_asymm this] at h4; exact absurd h4 (by simp)
    subst e
    refine congrArg (a :: ·) (rising_ext ha'.2 hb'.2 fun p => ?_)
    constructor
    · intro hp
      rcases List.mem_cons.1 ((h p).1 (List.mem_cons_of_mem _ hp)) with e | e
      · subst e; have := ha'.1 p hp; rw [ltP_irrefl] at this; exact absurd this (by simp)
      · exact e
    · intro hp
      rcases List.mem_cons.1 ((h p).2 (List.mem_cons_of_mem _ hp)) with e | e
      · subst e; have := hb'.1 p hp; rw [ltP_irrefl] at this; exact absurd this (by simp)
      · exact e

/-- Insert into a rising list. -/
def addP : List Pt → Pt → List Pt
  | [], p => [p]
  | q :: l, p => if ltP q p then q :: addP l p else if ltP p q then p :: q :: l else q :: l
theorem mem_addP {l : List Pt} {p x : Pt} : x ∈ addP l p ↔ x ∈ l ∨ x = p := by
  induction l with
  | nil => simp [addP]
  | cons q l ih =>
    simp only [addP]
    split
    · simp [ih, or_assoc]
    · rename_i h1
      split
      · simp only [List.mem_cons]
        constructor
        · rintro (h | h | h)
          · exact .inr h
          · exact .inl (.inl h)
          · exact .inl (.inr h)
        · rintro ((h | h) | h)
          · exact .inr (.inl h)
          · exact .inr (.inr h)
          · exact .inl h
      · rename_i h2
        have := ltP_total (p := q) (q := p) (by simpa using h1) (by simpa using h2)
        subst this
        simp only [List.mem_cons]
        exact ⟨.inl, fun h => h.elim id .inl⟩
theorem rising_addP {l : List Pt} (h : Rising l) (p : Pt) : Rising (addP l p) := by
  induction l with
  | nil => simp [addP, Rising]
  | cons q l ih =>
    have h' := List.pairwise_cons.1 h
    simp only [addP]
    split
    · rename_i h1
      refine List.pairwise_cons.2 ⟨fun x hx => ?_, ih h'.2⟩
      rcases mem_addP.1 hx with hx | rfl
      · exact h'.1 x hx
      · exact h1
    · split
      · rename_i h1 h2
        refine List.pairwise_cons.2 ⟨fun x hx => ?_, h⟩
        rcases List.mem_cons.1 hx with rfl | hx
        · exact h2
        · exact ltP_trans h2 (h'.1 x hx)
      · exact h
/-- The rising list of what is in a list. -/
def sorted (l : List Pt) : List Pt := l.foldl addP []
theorem foldl_addP {l : List Pt} : ∀ {a : List Pt}, Rising a → Rising (l.foldl addP a) ∧ ∀ x, x ∈ l.foldl addP a ↔ x ∈ a ∨ x ∈ l := by
  induction l with
  | nil => intro a h; exact ⟨h, by simp⟩
  | cons p l ih =>
    intro a h
    have := ih (rising_addP h p)
    refine ⟨this.1, fun x => ?_⟩
    rw [List.foldl_cons, this.2, mem_addP, List.mem_cons, or_assoc]
theorem rising_sorted (l : List Pt) : Rising (sorted l) := (foldl_addP List.Pairwise.nil).1
theorem mem_sorted {l : List Pt} {x : Pt} : x ∈ sorted l ↔ x ∈ l := by unfold sorted; rw [(foldl_addP List.Pairwise.nil).2]; simp

/-! ### Levels -/
def enumFrom' {α : Type} (l : List α) : List (Int × α) := (List.range l.length).zipWith (fun (i : Nat) x => ((i : Int), x)) l
def rulesOf (m : Mc) : List (Int × Int × Rl) := (enumFrom' m.rules).flatMap fun sr => (enumFrom' sr.2).map fun xr => (sr.1, xr.1, xr.2)

def before (p : Pt) (s x : Int) (r : Rl) : Option Pt :=
  if r.next ≠ p.state then none
  else
    let at' := p.head - r.move
    if at' < 0 then some ⟨s, 0, x :: p.cells⟩
    else if at' = p.cells.length then some ⟨s, at', p.cells ++ [x]⟩
    else if p.cells.getD at'.toNat 0 ≠ r.write then none
    else some ⟨s, at', p.cells.set at'.toNat x⟩
def firstOf (sxr : Int × Int × Rl) : Option Pt := if sxr.2.2.next = -1 then some ⟨sxr.1, 0, [sxr.2.1]⟩ else none
def firstL (m : Mc) : List Pt := (rulesOf m).filterMap firstOf
def predsL (m : Mc) (l : List Pt) : List Pt := l.flatMap fun p => (rulesOf m).filterMap fun sxr => before p sxr.1 sxr.2.1 sxr.2.2
def nextL (m : Mc) (l : List Pt) : List Pt := sorted (predsL m l)
def levelL (m : Mc) : Nat → List Pt
  | 0 => firstL m
  | k + 1 => nextL m (levelL m k)


/-! ### How loops come to these lists -/
theorem enum_length {α : Type} (l : List α) : (enumFrom' l).length = l.length := by simp [enumFrom']
theorem enum_take {α : Type} (l : List α) (i : Nat) (h : i < l.length) : (enumFrom' l).take (i + 1) = (enumFrom' l).take i ++ [((i : Int), l[i])] := by
  rw [List.take_succ_eq_append_getElem (by rw [enum_length]; exact h)]
  congr 1
  simp [enumFrom']
theorem enum_all {α : Type} (l : List α) : (enumFrom' l).take l.length = enumFrom' l := List.take_of_length_le (by rw [enum_length]; exact Nat.le_refl _)
/-- The rules in the first i rows. -/
def rulesTo (m : Mc) (i : Nat) : List (Int × Int × Rl) := ((enumFrom' m.rules).take i).flatMap fun sr => (enumFrom' sr.2).map fun xr => (sr.1, xr.1, xr.2)
/-- The first j rules of a row. -/
def rowTo (i : Nat) (row : List Rl) (j : Nat) : List (Int × Int × Rl) := ((enumFrom' row).take j).map fun xr => ((i : Int), xr.1, xr.2)
theorem rulesTo_zero (m : Mc) : rulesTo m 0 = [] := rfl
theorem rowTo_zero (i : Nat) (row : List Rl) : rowTo i row 0 = [] := rfl
theorem rowTo_succ (i : Nat) (row : List Rl) (j : Nat) (h : j < row.length) : rowTo i row (j + 1) = rowTo i row j ++ [((i : Int), (j : Int), row[j])] := by
  unfold rowTo; rw [enum_take _ _ h]; simp
theorem rulesTo_succ (m : Mc) (i : Nat) (h : i < m.rules.length) : rulesTo m (i + 1) = rulesTo m i ++ rowTo i m.rules[i] m.rules[i].length := by
  unfold rulesTo rowTo
  rw [enum_take _ _ h, enum_all]
  simp
theorem rulesTo_all (m : Mc) : rulesTo m m.rules.length = rulesOf m := by unfold rulesTo rulesOf; rw [enum_all]
theorem rulesTo_length_le (m : Mc) (K : Nat) (hK : ∀ row ∈ m.rules, row.length ≤ K) (i : Nat) (hi : i ≤ m.rules.length) : (rulesTo m i).length ≤ i * K := by
  induction i with
  | zero => simp [rulesTo]
  | succ i ih =>
    have h := ih (by omega)
    rw [rulesTo_succ m i (by omega), List.length_append]
    have : (rowTo i m.rules[i] m.rules[i].length).length = m.rules[i].length := by simp [rowTo, enum_length]
    have h2 := hK m.rules[i] (List.getElem_mem _)
    rw [this, Nat.succ_mul]; omega
theorem rowTo_length (i : Nat) (row : List Rl) (j : Nat) (h : j ≤ row.length) : (rowTo i row j).length = j := by simp [rowTo, enum_length]; omega

end Go.Proofs.Ytgnhlaonckognaa
