/- The reference's run as data: its steps are those of a configuration with a tape that is a function. Conditions: none. -/
import Derived.Test.YtgnhlaonckognaaRunPlain
namespace Go.Proofs.Ytgnhlaonckognaa

/-- A run as data. -/
structure Rn where
  state : Int
  pos : Int
  right : List Int
  left : List Int
  steps : Int

def cellL (l : List Int) (i : Nat) : Int := l.getD i 0
def Rn.cell (r : Rn) (x : Int) : Int := if 0 ≤ x then cellL r.right x.toNat else cellL r.left (-1 - x).toNat
def putL (l : List Int) (i : Nat) (v : Int) : List Int := (l ++ List.replicate (i + 1 - l.length) 0).set i v
def Rn.put (r : Rn) (v : Int) : Rn := if 0 ≤ r.pos then { r with right := putL r.right r.pos.toNat v } else { r with left := putL r.left (-1 - r.pos).toNat v }

theorem Rn.put_state (r : Rn) (v : Int) : (r.put v).state = r.state := by unfold Rn.put; split <;> rfl
theorem Rn.put_pos (r : Rn) (v : Int) : (r.put v).pos = r.pos := by unfold Rn.put; split <;> rfl
theorem Rn.put_steps (r : Rn) (v : Int) : (r.put v).steps = r.steps := by unfold Rn.put; split <;> rfl
def Rn.step (m : Mc) (r : Rn) : Rn :=
  { r.put (ruleAt m r.state (r.cell r.pos)).write with state := (ruleAt m r.state (r.cell r.pos)).next, pos := r.pos + (ruleAt m r.state (r.cell r.pos)).move, steps := r.steps + 1 }

theorem cellL_putL (l : List Int) (i j : Nat) (v : Int) : cellL (putL l i v) j = if j = i then v else cellL l j := by
  unfold cellL putL
  rw [List.getD_eq_getElem?_getD, List.getD_eq_getElem?_getD]
  by_cases h : j = i
  · subst h
    rw [if_pos rfl, List.getElem?_set_self (by simp; omega)]
    rfl
  · rw [if_neg h, List.getElem?_set_ne (fun e => h e.symm)]
    rcases Nat.lt_or_ge j l.length with hj | hj
    · rw [List.getElem?_append_left hj]
    · rw [List.getElem?_append_right hj, List.getElem?_eq_none hj, List.getElem?_replicate]
      split <;> rfl
theorem putL_length (l : List Int) (i : Nat) (v : Int) : (putL l i v).length = max l.length (i + 1) := by
  unfold putL; simp; omega
theorem Rn.cell_put (r : Rn) (v x : Int) : (r.put v).cell x = if x = r.pos then v else r.cell x := by
  unfold Rn.put
  by_cases hp : 0 ≤ r.pos
  · rw [if_pos hp]
    unfold Rn.cell
    dsimp only
    by_cases hx : 0 ≤ x
    · rw [if_pos hx, if_pos hx, cellL_putL]
      by_cases e : x = r.pos
      · rw [if_pos e, if_pos (by rw [e])]
      · rw [if_neg e, if_neg (by omega)]
    · rw [if_neg hx, if_neg hx, if_neg (by omega)]
  · rw [if_neg hp]
    unfold Rn.cell
    dsimp only
    by_cases hx : 0 ≤ x
    · rw [if_pos hx, if_pos hx, if_neg (by omega)]
    · rw [if_neg hx, if_neg hx, cellL_putL]
      by_cases e : x = r.pos
      · rw [if_pos e, if_pos (by rw [e])]
      · rw [if_neg e, if_neg (by omega)]

/-- The configuration. -/
def Rn.cf (r : Rn) : Cf := ⟨r.state, r.pos, r.cell⟩
theorem Rn.cf_step (m : Mc) (r : Rn) : (r.step m).cf = stepC m r.cf := by
  unfold Rn.cf stepC
  refine Cf.mk.injEq .. ▸ ⟨rfl, rfl, ?_⟩
  funext i
  show (r.put _).cell i = _
  rw [Rn.cell_put]
def Rn.go (m : Mc) : Nat → Rn → Rn
  | 0, r => r
  | n + 1, r => if r.state = -1 then r else Rn.go m n (r.step m)
theorem Rn.cf_go (m : Mc) (n : Nat) : ∀ r : Rn, (Rn.go m n r).cf = runC m n r.cf := by
  induction n with
  | zero => intro r; rfl
  | succ n ih =>
    intro r
    unfold Rn.go runC stepS
    by_cases h : r.state = -1
    · rw [if_pos h, if_pos (show r.cf.state = -1 from h), runC_stop (show r.cf.state = -1 from h)]
    · rw [if_neg h, if_neg (show ¬ r.cf.state = -1 from h), ih, Rn.cf_step]
theorem Rn.go_stop {m : Mc} {r : Rn} (h : r.state = -1) (n : Nat) : Rn.go m n r = r := by
  cases n with
  | zero => rfl
  | succ n => unfold Rn.go; rw [if_pos h]
theorem Rn.go_add (m : Mc) (a : Nat) : ∀ (b : Nat) (r : Rn), Rn.go m (a + b) r = Rn.go m b (Rn.go m a r) := by
  induction a with
  | zero => intro b r; rw [Nat.zero_add]; rfl
  | succ a ih =>
    intro b r
    rw [Nat.succ_add]
    show (if r.state = -1 then r else Rn.go m (a + b) (r.step m)) = Rn.go m b (if r.state = -1 then r else Rn.go m a (r.step m))
    by_cases h : r.state = -1
    · rw [if_pos h, if_pos h, Rn.go_stop h]
    · rw [if_neg h, if_neg h, ih]
theorem Rn.go_succ' (m : Mc) (n : Nat) (r : Rn) : Rn.go m (n + 1) r = if (Rn.go m n r).state = -1 then Rn.go m n r else (Rn.go m n r).step m := by
  rw [Rn.go_add]; rfl
/-- Sizes. -/
structure Rn.Bd (K : Nat) (r : Rn) : Prop where
  p0 : -(K : Int) ≤ r.pos
  p1 : r.pos ≤ K
  r1 : r.right.length ≤ K
  l1 : r.left.length ≤ K
  s0 : 0 ≤ r.steps
  s1 : r.steps ≤ K
theorem Rn.Bd.mono {K K' : Nat} {r : Rn} (h : r.Bd K) (hk : K ≤ K') : r.Bd K' := ⟨by have := h.p0; omega, by have := h.p1; omega, by have := h.r1; omega, by have := h.l1; omega, h.s0, by have := h.s1; omega⟩
theorem Rn.Bd.step {K : Nat} {m : Mc} {r : Rn} (h : r.Bd K) (hm : (ruleAt m r.state (r.cell r.pos)).move = -1 ∨ (ruleAt m r.state (r.cell r.pos)).move = 1) : (r.step m).Bd (K + 1) := by
  have h1 := h.p0; have h2 := h.p1; have h3 := h.r1; have h4 := h.l1; have h5 := h.s0; have h6 := h.s1
  have hr : (r.put (ruleAt m r.state (r.cell r.pos)).write).right.length ≤ K + 1 := by
    unfold Rn.put; split
    · show (putL _ _ _).length ≤ _; rw [putL_length]; omega
    · show r.right.length ≤ _; omega
  have hl : (r.put (ruleAt m r.state (r.cell r.pos)).write).left.length ≤ K + 1 := by
    unfold Rn.put; split
    · show r.left.length ≤ _; omega
    · show (putL _ _ _).length ≤ _; rw [putL_length]; omega
  exact ⟨by show _ ≤ r.pos + (ruleAt m r.state (r.cell r.pos)).move; omega, by show r.pos + (ruleAt m r.state (r.cell r.pos)).move ≤ _; omega, hr, hl, by show 0 ≤ r.steps + 1; omega, by show r.steps + 1 ≤ _; omega⟩
theorem Rn.go_ok {m : Mc} (hm : m.Good) {r : Rn} (h : r.cf.Ok m) (n : Nat) : (Rn.go m n r).cf.Ok m := by rw [Rn.cf_go]; exact h.run hm n
theorem Rn.go_bd {m : Mc} (hm : m.Good) {K : Nat} (n : Nat) : ∀ {r : Rn}, r.cf.Ok m → r.Bd K → (Rn.go m n r).Bd (K + n) := by
  induction n with
  | zero => intro r _ h; exact h
  | succ n ih =>
    intro r ho h
    rw [Rn.go_succ']
    have h1 := ih ho h
    split
    · exact h1.mono (by omega)
    · rename_i hs
      have hok := Rn.go_ok hm ho n
      have h0 : 0 ≤ (Rn.go m n r).state := by have : -1 ≤ (Rn.go m n r).state := hok.lo; omega
      exact h1.step (hm.ruleOk h0 hok.hi (hok.sym _).1 (hok.sym _).2).mv
/-- A fresh run. -/
def Rn.fresh : Rn := ⟨0, 0, [], [], 0⟩
theorem Rn.fresh_cf : Rn.fresh.cf = blank := by
  unfold Rn.cf blank
  refine Cf.mk.injEq .. ▸ ⟨rfl, rfl, ?_⟩
  funext i
  unfold Rn.cell Rn.fresh cellL
  split <;> simp
theorem Rn.fresh_bd : Rn.fresh.Bd 0 := ⟨Int.le_refl _, Int.le_refl _, Nat.le_refl _, Nat.le_refl _, Int.le_refl _, Int.le_refl _⟩

end Go.Proofs.Ytgnhlaonckognaa
