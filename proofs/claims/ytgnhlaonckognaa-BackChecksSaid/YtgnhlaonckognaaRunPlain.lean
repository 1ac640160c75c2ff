/- Plain laws of runs: configurations with a tape that is a function, steps, runs; what backward levels say of them. Conditions: none. -/
import Derived.Test.YtgnhlaonckognaaBackPlain
namespace Go.Proofs.Ytgnhlaonckognaa

/-- A configuration: state, position of the head, tape. -/
structure Cf where
  state : Int
  pos : Int
  tape : Int → Int

def ruleAt (m : Mc) (s x : Int) : Rl := (m.rules.getD s.toNat []).getD x.toNat default
def stepC (m : Mc) (c : Cf) : Cf :=
  ⟨(ruleAt m c.state (c.tape c.pos)).next, c.pos + (ruleAt m c.state (c.tape c.pos)).move, fun i => if i = c.pos then (ruleAt m c.state (c.tape c.pos)).write else c.tape i⟩
/-- A step, or nothing if the machine has stopped. -/
def stepS (m : Mc) (c : Cf) : Cf := if c.state = -1 then c else stepC m c
def runC (m : Mc) : Nat → Cf → Cf
  | 0, c => c
  | n + 1, c => runC m n (stepS m c)
def blank : Cf := ⟨0, 0, fun _ => 0⟩

/-- A configuration that is right for a machine. -/
structure Cf.Ok (m : Mc) (c : Cf) : Prop where
  lo : -1 ≤ c.state
  hi : c.state < m.states
  sym : ∀ i, 0 ≤ c.tape i ∧ c.tape i < m.symbols

theorem runC_succ (m : Mc) (n : Nat) (c : Cf) : runC m (n + 1) c = stepS m (runC m n c) := by
  induction n generalizing c with
  | zero => rfl
  | succ n ih => rw [runC, ih (stepS m c)]; rfl
theorem runC_add (m : Mc) (a b : Nat) (c : Cf) : runC m (a + b) c = runC m b (runC m a c) := by
  induction a generalizing c with
  | zero => rw [Nat.zero_add]; rfl
  | succ a ih => rw [Nat.succ_add, runC, runC, ih]
theorem stepS_stop {m : Mc} {c : Cf} (h : c.state = -1) : stepS m c = c := by simp [stepS, h]
theorem runC_stop {m : Mc} {c : Cf} (h : c.state = -1) (n : Nat) : runC m n c = c := by
  induction n with
  | zero => rfl
  | succ n ih => rw [runC, stepS_stop h, ih]
theorem runC_stop_mono {m : Mc} {c : Cf} {a b : Nat} (hab : a ≤ b) (h : (runC m a c).state = -1) : runC m b c = runC m a c := by
  obtain ⟨k, rfl⟩ : ∃ k, b = a + k := ⟨b - a, by omega⟩
  rw [runC_add, runC_stop h]

/-! ### What is known of the rules of a right machine -/
structure RuleOk (m : Mc) (r : Rl) : Prop where
  w0 : 0 ≤ r.write
  w1 : r.write < m.symbols
  mv : r.move = -1 ∨ r.move = 1
  n0 : -1 ≤ r.next
  n1 : r.next < m.states
structure Mc.Good (m : Mc) : Prop where
  s0 : 1 ≤ m.states
  s1 : m.states ≤ 6
  y0 : 2 ≤ m.symbols
  y1 : m.symbols ≤ 4
  len : (m.rules.length : Int) = m.states
  row : ∀ row ∈ m.rules, (row.length : Int) = m.symbols
  rule : ∀ row ∈ m.rules, ∀ r ∈ row, RuleOk m r
theorem Mc.good_iff {m : Mc} : m.ok = true ↔ m.Good := by
  unfold Mc.ok
  simp only [Bool.and_eq_true, decide_eq_true_eq, List.all_eq_true, Rl.ok]
  constructor
  · rintro ⟨⟨h1, h2, h3, h4, h5⟩, h6⟩
    exact ⟨h1, h2, h3, h4, h5, fun row hr => (h6 row hr).1, fun row hr r hrr => by
      obtain ⟨a, b, c, d, e⟩ := (h6 row hr).2 r hrr
      exact ⟨a, b, c, d, e⟩⟩
  · intro h
    exact ⟨⟨h.s0, h.s1, h.y0, h.y1, h.len⟩, fun row hr => ⟨h.row row hr, fun r hrr =>
      ⟨(h.rule row hr r hrr).w0, (h.rule row hr r hrr).w1, (h.rule row hr r hrr).mv, (h.rule row hr r hrr).n0, (h.rule row hr r hrr).n1⟩⟩⟩
theorem Mc.Good.rowAt {m : Mc} (h : m.Good) {s : Int} (h0 : 0 ≤ s) (h1 : s < m.states) : m.rules.getD s.toNat [] ∈ m.rules := by
  have hl : s.toNat < m.rules.length := by have := h.len; omega
  rw [List.getD_eq_getElem?_getD, List.getElem?_eq_getElem hl]
  exact List.getElem_mem hl
theorem Mc.Good.ruleMem {m : Mc} (h : m.Good) {s x : Int} (h0 : 0 ≤ s) (h1 : s < m.states) (x0 : 0 ≤ x) (x1 : x < m.symbols) : ruleAt m s x ∈ m.rules.getD s.toNat [] := by
  have hr := h.rowAt h0 h1
  have hl : x.toNat < (m.rules.getD s.toNat []).length := by have := h.row _ hr; omega
  unfold ruleAt
  rw [List.getD_eq_getElem?_getD (l := m.rules.getD s.toNat []), List.getElem?_eq_getElem hl]
  exact List.getElem_mem hl
theorem Mc.Good.ruleOk {m : Mc} (h : m.Good) {s x : Int} (h0 : 0 ≤ s) (h1 : s < m.states) (x0 : 0 ≤ x) (x1 : x < m.symbols) : RuleOk m (ruleAt m s x) :=
  h.rule _ (h.rowAt h0 h1) _ (h.ruleMem h0 h1 x0 x1)

theorem Cf.Ok.step {m : Mc} {c : Cf} (hm : m.Good) (h : c.Ok m) (hs : c.state ≠ -1) : (stepC m c).Ok m := by
  have h0 : 0 ≤ c.state := by have := h.lo; omega
  have r := hm.ruleOk h0 h.hi (h.sym c.pos).1 (h.sym c.pos).2
  refine ⟨r.n0, r.n1, fun i => ?_⟩
  show 0 ≤ (if i = c.pos then _ else _) ∧ (if i = c.pos then _ else _) < m.symbols
  split
  · exact ⟨r.w0, r.w1⟩
  · exact h.sym i
theorem Cf.Ok.stepS {m : Mc} {c : Cf} (hm : m.Good) (h : c.Ok m) : (stepS m c).Ok m := by
  unfold Go.Proofs.Ytgnhlaonckognaa.stepS
  split
  · exact h
  · rename_i hs; exact h.step hm hs
theorem Cf.Ok.run {m : Mc} {c : Cf} (hm : m.Good) (h : c.Ok m) (n : Nat) : (runC m n c).Ok m := by
  induction n generalizing c with
  | zero => exact h
  | succ n ih => exact ih (h.stepS hm)
theorem blank_ok {m : Mc} (hm : m.Good) : blank.Ok m := ⟨by show (-1 : Int) ≤ 0; omega, by have := hm.s0; show (0 : Int) < _; omega, fun _ => ⟨Int.le_refl _, by have := hm.y0; show (0 : Int) < _; omega⟩⟩

/-! ### Matching -/
structure Pt.Ok (p : Pt) : Prop where
  h0 : 0 ≤ p.head
  h1 : p.head < p.cells.length
def matchesC (p : Pt) (c : Cf) : Prop := p.state = c.state ∧ ∀ i : Nat, i < p.cells.length → p.cells.getD i 0 = c.tape (c.pos + i - p.head)

theorem mem_enum {α : Type} {l : List α} {i : Int} {x : α} : (i, x) ∈ enumFrom' l ↔ 0 ≤ i ∧ l[i.toNat]? = some x := by
  unfold enumFrom'
  rw [List.mem_iff_getElem?]
  constructor
  · rintro ⟨n, hn⟩
    rw [List.getElem?_zipWith] at hn
    cases h1 : (List.range l.length)[n]? with
    | none => simp [h1] at hn
    | some a =>
      cases h2 : l[n]? with
      | none => simp [h2] at hn
      | some b =>
        have h3 := List.getElem?_eq_some_iff.1 h1
        simp only [List.getElem_range] at h3
        obtain ⟨_, rfl⟩ := h3
        simp [h1, h2] at hn
        obtain ⟨rfl, rfl⟩ := hn
        exact ⟨by omega, by simpa using h2⟩
  · rintro ⟨h0, h⟩
    obtain ⟨n, rfl⟩ := Int.eq_ofNat_of_zero_le h0
    refine ⟨n, ?_⟩
    simp only [Int.toNat_natCast] at h
    have hl := (List.getElem?_eq_some_iff.1 h).1
    rw [List.getElem?_zipWith, List.getElem?_range hl, h]
theorem mem_rulesOf {m : Mc} {s x : Int} {r : Rl} : (s, x, r) ∈ rulesOf m ↔ 0 ≤ s ∧ 0 ≤ x ∧ ∃ row, m.rules[s.toNat]? = some row ∧ row[x.toNat]? = some r := by
  unfold rulesOf
  rw [List.mem_flatMap]
  constructor
  · rintro ⟨⟨s', row⟩, h1, h2⟩
    rw [List.mem_map] at h2
    obtain ⟨⟨x', r'⟩, h3, h4⟩ := h2
    simp only [Prod.mk.injEq] at h4
    obtain ⟨rfl, rfl, rfl⟩ := h4
    have e1 := mem_enum.1 h1
    have e2 := mem_enum.1 h3
    exact ⟨e1.1, e2.1, row, e1.2, e2.2⟩
  · rintro ⟨h1, h2, row, h3, h4⟩
    exact ⟨(s, row), mem_enum.2 ⟨h1, h3⟩, List.mem_map.2 ⟨(x, r), mem_enum.2 ⟨h2, h4⟩, rfl⟩⟩
theorem ruleAt_mem {m : Mc} (hm : m.Good) {s x : Int} (h0 : 0 ≤ s) (h1 : s < m.states) (x0 : 0 ≤ x) (x1 : x < m.symbols) : (s, x, ruleAt m s x) ∈ rulesOf m := by
  have hl : s.toNat < m.rules.length := by have := hm.len; omega
  have hr := hm.rowAt h0 h1
  have hl2 : x.toNat < (m.rules.getD s.toNat []).length := by have := hm.row _ hr; omega
  refine mem_rulesOf.2 ⟨h0, x0, m.rules.getD s.toNat [], ?_, ?_⟩
  · rw [List.getD_eq_getElem?_getD, List.getElem?_eq_getElem hl]; rfl
  · unfold ruleAt; rw [List.getD_eq_getElem?_getD (l := m.rules.getD s.toNat []), List.getElem?_eq_getElem hl2]; rfl

theorem mem_firstL {m : Mc} {p : Pt} : p ∈ firstL m ↔ ∃ s x r, (s, x, r) ∈ rulesOf m ∧ r.next = -1 ∧ p = ⟨s, 0, [x]⟩ := by
  unfold firstL
  rw [List.mem_filterMap]
  constructor
  · rintro ⟨⟨s, x, r⟩, h1, h2⟩
    unfold firstOf at h2
    split at h2
    · rename_i h3; exact ⟨s, x, r, h1, h3, by simpa using h2.symm⟩
    · simp at h2
  · rintro ⟨s, x, r, h1, h2, rfl⟩
    exact ⟨(s, x, r), h1, by simp [firstOf, h2]⟩
theorem mem_predsL {m : Mc} {l : List Pt} {p : Pt} : p ∈ predsL m l ↔ ∃ q ∈ l, ∃ s x r, (s, x, r) ∈ rulesOf m ∧ before q s x r = some p := by
  unfold predsL
  rw [List.mem_flatMap]
  constructor
  · rintro ⟨q, hq, h⟩
    obtain ⟨⟨s, x, r⟩, h1, h2⟩ := List.mem_filterMap.1 h
    exact ⟨q, hq, s, x, r, h1, h2⟩
  · rintro ⟨q, hq, s, x, r, h1, h2⟩
    exact ⟨q, hq, List.mem_filterMap.2 ⟨(s, x, r), h1, h2⟩⟩

theorem before_ok {p q : Pt} {s x : Int} {r : Rl} (hp : p.Ok) (hr : r.move = -1 ∨ r.move = 1) (h : before p s x r = some q) : q.Ok := by
  unfold before at h
  have h0 := hp.h0; have h1 := hp.h1
  split at h
  · simp at h
  · dsimp only at h
    split at h
    · injection h with h; subst h; exact ⟨Int.le_refl _, by show (0 : Int) < ((x :: p.cells).length : Nat); simp only [List.length_cons]; omega⟩
    · split at h
      · rename_i h2 h3
        injection h with h; subst h
        exact ⟨by show (0 : Int) ≤ p.head - r.move; omega, by show p.head - r.move < ((p.cells ++ [x]).length : Nat); simp; omega⟩
      · split at h
        · simp at h
        · rename_i h2 h3 h4
          injection h with h; subst h
          exact ⟨by show (0 : Int) ≤ p.head - r.move; omega, by show p.head - r.move < ((p.cells.set _ _).length : Nat); rw [List.length_set]; omega⟩

theorem match_first {m : Mc} {c : Cf} (hm : m.Good) (hc : c.Ok m) (hs : c.state ≠ -1) (h : (stepC m c).state = -1) : ∃ p ∈ firstL m, matchesC p c := by
  have h0 : 0 ≤ c.state := by have := hc.lo; omega
  refine ⟨⟨c.state, 0, [c.tape c.pos]⟩, mem_firstL.2 ⟨_, _, _, ruleAt_mem hm h0 hc.hi (hc.sym c.pos).1 (hc.sym c.pos).2, h, rfl⟩, rfl, fun i hi => ?_⟩
  have : i = 0 := by simpa using hi
  subst this
  simp

theorem match_before {m : Mc} {c : Cf} {p : Pt} (hm : m.Good) (hc : c.Ok m) (hs : c.state ≠ -1) (hp : p.Ok) (h : matchesC p (stepC m c)) :
    ∃ q, before p c.state (c.tape c.pos) (ruleAt m c.state (c.tape c.pos)) = some q ∧ matchesC q c := by
  have h0 : 0 ≤ c.state := by have := hc.lo; omega
  have r := hm.ruleOk h0 hc.hi (hc.sym c.pos).1 (hc.sym c.pos).2
  obtain ⟨hst, hcell⟩ := h
  generalize hr : ruleAt m c.state (c.tape c.pos) = rr at *
  have hst' : p.state = rr.next := by rw [hst]; show (ruleAt m c.state (c.tape c.pos)).next = _; rw [hr]
  have hpos : (stepC m c).pos = c.pos + rr.move := by show c.pos + (ruleAt m c.state (c.tape c.pos)).move = _; rw [hr]
  have htape : ∀ i, (stepC m c).tape i = if i = c.pos then rr.write else c.tape i := by
    intro i; show (if i = c.pos then (ruleAt m c.state (c.tape c.pos)).write else c.tape i) = _; rw [hr]
  simp only [hpos, htape] at hcell
  have p0 := hp.h0; have p1 := hp.h1
  unfold before
  rw [if_neg (by rw [hst']; simp)]
  dsimp only
  have mv := r.mv
  by_cases e1 : p.head - rr.move < 0
  · rw [if_pos e1]
    refine ⟨_, rfl, rfl, fun i hi => ?_⟩
    have hm1 : rr.move = 1 := by omega
    have hh : p.head = 0 := by omega
    cases i with
    | zero => show (c.tape c.pos :: p.cells).getD 0 0 = c.tape (c.pos + (0 : Nat) - 0); simp
    | succ i =>
      have hi' : i < p.cells.length := by simpa using hi
      have := hcell i hi'
      show (c.tape c.pos :: p.cells).getD (i + 1) 0 = c.tape (c.pos + (i + 1 : Nat) - 0)
      rw [List.getD_cons_succ, this, if_neg (by omega)]
      congr 1; omega
  · rw [if_neg e1]
    by_cases e2 : p.head - rr.move = p.cells.length
    · rw [if_pos e2]
      refine ⟨_, rfl, rfl, fun i hi => ?_⟩
      have hm1 : rr.move = -1 := by omega
      show (p.cells ++ [c.tape c.pos]).getD i 0 = c.tape (c.pos + i - (p.head - rr.move))
      rcases Nat.lt_or_ge i p.cells.length with hi' | hi'
      · have := hcell i hi'
        rw [List.getD_eq_getElem?_getD, List.getElem?_append_left hi', ← List.getD_eq_getElem?_getD, this, if_neg (by omega)]
        congr 1; omega
      · have hi2 : i = p.cells.length := by
          have : i < (p.cells ++ [c.tape c.pos]).length := hi
          simp at this; omega
        subst hi2
        rw [List.getD_eq_getElem?_getD, List.getElem?_append_right (Nat.le_refl _)]
        simp only [Nat.sub_self, List.getElem?_cons_zero, Option.getD_some]
        congr 1; omega
    · rw [if_neg e2]
      have hlt : (p.head - rr.move).toNat < p.cells.length := by omega
      have hw := hcell (p.head - rr.move).toNat hlt
      rw [if_pos (by omega)] at hw
      rw [if_neg (by rw [hw]; simp)]
      refine ⟨_, rfl, rfl, fun i hi => ?_⟩
      show (p.cells.set (p.head - rr.move).toNat (c.tape c.pos)).getD i 0 = c.tape (c.pos + i - (p.head - rr.move))
      have hi' : i < p.cells.length := by
        have : i < (p.cells.set (p.head - rr.move).toNat (c.tape c.pos)).length := hi
        simpa using this
      by_cases e3 : i = (p.head - rr.move).toNat
      · subst e3
        rw [List.getD_eq_getElem?_getD, List.getElem?_set_self hlt]
        show c.tape c.pos = _
        congr 1; omega
      · rw [List.getD_eq_getElem?_getD, List.getElem?_set_ne (fun h => e3 h.symm), ← List.getD_eq_getElem?_getD, hcell i hi', if_neg (by omega)]
        congr 1; omega

theorem levelL_ok {m : Mc} (hm : m.Good) : ∀ k, ∀ p ∈ levelL m k, p.Ok
  | 0, p, hp => by
    obtain ⟨s, x, r, _, _, rfl⟩ := mem_firstL.1 hp
    exact ⟨Int.le_refl _, by show (0 : Int) < ([x].length : Nat); simp⟩
  | k + 1, p, hp => by
    have hp' : p ∈ predsL m (levelL m k) := mem_sorted.1 hp
    obtain ⟨q, hq, s, x, r, hmem, hb⟩ := mem_predsL.1 hp'
    obtain ⟨h0, h1, row, h2, h3⟩ := mem_rulesOf.1 hmem
    exact before_ok (levelL_ok hm k q hq) (hm.rule row (List.mem_of_getElem? h2) r (List.mem_of_getElem? h3)).mv hb

/-- P11.2: the configuration k + 1 steps before the end matches an element of level k. -/
theorem level_match {m : Mc} (hm : m.Good) (k : Nat) : ∀ c : Cf, c.Ok m → (∀ j, j ≤ k → (runC m j c).state ≠ -1) → (runC m (k + 1) c).state = -1 → ∃ p ∈ levelL m k, matchesC p c := by
  induction k with
  | zero =>
    intro c hc h1 h2
    have hs : c.state ≠ -1 := h1 0 (Nat.le_refl _)
    have h3 : (stepS m c).state = -1 := h2
    unfold stepS at h3
    rw [if_neg hs] at h3
    exact match_first hm hc hs h3
  | succ k ih =>
    intro c hc h1 h2
    have hs : c.state ≠ -1 := h1 0 (Nat.zero_le _)
    have e : stepS m c = stepC m c := by unfold stepS; rw [if_neg hs]
    obtain ⟨p, hp, hm1⟩ := ih (stepC m c) (hc.step hm hs) (fun j hj => by have := h1 (j + 1) (by omega); rw [runC, e] at this; exact this) (by rw [runC, e] at h2; exact h2)
    obtain ⟨q, hq, hmq⟩ := match_before hm hc hs (levelL_ok hm k p hp) hm1
    have h0 : 0 ≤ c.state := by have := hc.lo; omega
    exact ⟨q, mem_sorted.2 (mem_predsL.2 ⟨p, hp, _, _, _, ruleAt_mem hm h0 hc.hi (hc.sym c.pos).1 (hc.sym c.pos).2, hq⟩), hmq⟩

theorem level_nil {m : Mc} {k : Nat} (h : levelL m k = []) : ∀ j, levelL m (k + j) = []
  | 0 => h
  | j + 1 => by
    show nextL m (levelL m (k + j)) = []
    rw [level_nil h j]
    rfl

theorem run_first_stop {m : Mc} {c : Cf} : ∀ n : Nat, (runC m n c).state = -1 → ∃ t ≤ n, (runC m t c).state = -1 ∧ ∀ j, j < t → (runC m j c).state ≠ -1
  | 0, h => ⟨0, Nat.le_refl _, h, fun j hj => absurd hj (by omega)⟩
  | n + 1, h => by
    by_cases h1 : (runC m n c).state = -1
    · obtain ⟨t, ht, h2, h3⟩ := run_first_stop n h1
      exact ⟨t, by omega, h2, h3⟩
    · refine ⟨n + 1, Nat.le_refl _, h, fun j hj hj2 => ?_⟩
      have := runC_stop_mono (by omega : j ≤ n) hj2
      rw [this] at h1
      exact h1 hj2

/-- P11.1: an empty level, and no stop within as many steps: the machine never stops. -/
theorem level_ever {m : Mc} (hm : m.Good) {k : Nat} (hl : levelL m k = []) (hs : (runC m k blank).state ≠ -1) (n : Nat) : (runC m n blank).state ≠ -1 := by
  intro hn
  obtain ⟨t, _, h2, h3⟩ := run_first_stop n hn
  have hkt : k < t := by
    rcases Nat.lt_or_ge k t with h | h
    · exact h
    · have := runC_stop_mono h h2
      rw [this] at hs
      exact absurd h2 hs
  obtain ⟨p, hp, _⟩ := level_match hm k (runC m (t - k - 1) blank) ((blank_ok hm).run hm _)
    (fun j hj => by rw [← runC_add]; exact h3 _ (by omega)) (by rw [← runC_add, show t - k - 1 + (k + 1) = t by omega]; exact h2)
  rw [hl] at hp
  exact absurd hp (by simp)

end Go.Proofs.Ytgnhlaonckognaa
