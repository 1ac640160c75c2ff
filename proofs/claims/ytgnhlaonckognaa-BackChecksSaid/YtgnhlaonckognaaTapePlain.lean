/- Plain laws of the program's tape: a band that grows, a walk, its steps. Conditions: positions within K of a place C. -/
import Derived.Test.YtgnhlaonckognaaRunPlain
namespace Go.Proofs.Ytgnhlaonckognaa
set_option linter.unusedVariables false
set_option linter.unusedSimpArgs false

/-- A band as data. -/
structure Band where
  cells : List Int
  zero : Int
def Band.get (b : Band) (x : Int) : Int := if 0 ≤ x + b.zero then b.cells.getD (x + b.zero).toNat 0 else 0
/-- The band's ends stay within 5 K of C. -/
def Band.Sz (K C : Int) (b : Band) : Prop :=
  -(5*K) ≤ -b.zero - C ∧ (b.cells.length : Int) - b.zero - C ≤ 5*K ∧ (-(3*K) ≤ -b.zero - C ∨ K < (b.cells.length : Int) - b.zero - C) ∧ ((b.cells.length : Int) - b.zero - C ≤ 3*K ∨ -b.zero - C ≤ -K)
def Band.has (b : Band) (x : Int) : Prop := 0 ≤ x + b.zero ∧ x + b.zero < b.cells.length
theorem Band.Sz.bd {K C : Int} {b : Band} (h : b.Sz K C) : (b.cells.length : Int) ≤ 10*K := by
  obtain ⟨h1, h2, h3, h4⟩ := h
  omega
theorem Band.nil_get {b : Band} (h : b.cells = []) (x : Int) : b.get x = 0 := by
  unfold Band.get
  rw [h]
  split <;> rfl
/-- A fresh row of 16 cells about a position. -/
def freshB (pos : Int) : Band := ⟨List.replicate 16 0, 8 - pos⟩
theorem freshB_sz {K C pos : Int} (h0 : -K ≤ pos - C - 8) (h1 : pos - C + 8 ≤ K) : (freshB pos).Sz K C := by
  unfold freshB Band.Sz
  simp only [List.length_replicate]
  refine ⟨by omega, by omega, .inl (by omega), .inl (by omega)⟩
theorem freshB_get (pos x : Int) : (freshB pos).get x = 0 := by
  unfold freshB Band.get
  dsimp only
  split
  · rw [List.getD_eq_getElem?_getD, List.getElem?_replicate]
    split <;> rfl
  · rfl
theorem freshB_has (pos : Int) : (freshB pos).has pos := by
  unfold freshB Band.has
  simp only [List.length_replicate]
  omega
def leftB (b : Band) : Band := ⟨List.replicate b.cells.length 0 ++ b.cells, b.zero + b.cells.length⟩
theorem leftB_sz {K C : Int} {b : Band} (h : b.Sz K C) {pos : Int} (hp : C - K < pos) (hl : pos + b.zero < 0) : (leftB b).Sz K C := by
  obtain ⟨h1, h2, h3, h4⟩ := h
  unfold leftB Band.Sz
  simp only [List.length_append, List.length_replicate]
  refine ⟨by omega, by omega, ?_, ?_⟩ <;> omega
theorem leftB_get (b : Band) (x : Int) : (leftB b).get x = b.get x := by
  unfold leftB Band.get
  dsimp only
  by_cases hx : 0 ≤ x + b.zero
  · rw [if_pos hx, if_pos (by omega), List.getD_eq_getElem?_getD, List.getElem?_append_right (by simp; omega), List.getD_eq_getElem?_getD]
    congr 2
    simp; omega
  · rw [if_neg hx]
    split
    · rw [List.getD_eq_getElem?_getD, List.getElem?_append_left (by simp; omega), List.getElem?_replicate]
      split <;> rfl
    · rfl
theorem leftB_has {b : Band} {x : Int} (hx : b.has x) : (leftB b).has x := by
  unfold leftB Band.has at *
  simp only [List.length_append, List.length_replicate]
  omega
def rightB (b : Band) : Band := ⟨b.cells ++ List.replicate b.cells.length 0, b.zero⟩
theorem rightB_sz {K C : Int} {b : Band} (h : b.Sz K C) {pos : Int} (hp : pos < C + K) (hl : (b.cells.length : Int) ≤ pos + b.zero) : (rightB b).Sz K C := by
  obtain ⟨h1, h2, h3, h4⟩ := h
  unfold rightB Band.Sz
  simp only [List.length_append, List.length_replicate]
  refine ⟨by omega, by omega, ?_, ?_⟩ <;> omega
theorem rightB_get (b : Band) (x : Int) : (rightB b).get x = b.get x := by
  unfold rightB Band.get
  dsimp only
  split
  · rename_i hx
    rcases Nat.lt_or_ge (x + b.zero).toNat b.cells.length with hl2 | hl2
    · rw [List.getD_eq_getElem?_getD, List.getElem?_append_left hl2, List.getD_eq_getElem?_getD]
    · rw [List.getD_eq_getElem?_getD, List.getElem?_append_right hl2, List.getElem?_replicate, List.getD_eq_getElem?_getD, List.getElem?_eq_none hl2]
      split <;> rfl
  · rfl
theorem rightB_has {b : Band} {x : Int} (hx : b.has x) : (rightB b).has x := by
  unfold rightB Band.has at *
  simp only [List.length_append, List.length_replicate]
  omega
def setB (b : Band) (pos v : Int) : Band := ⟨b.cells.set (pos + b.zero).toNat v, b.zero⟩
theorem setB_get {b : Band} {pos : Int} (hp : b.has pos) (v : Int) (x : Int) : (setB b pos v).get x = if x = pos then v else b.get x := by
  unfold Band.has at hp
  unfold setB Band.get
  dsimp only
  by_cases hx : x = pos
  · subst hx
    rw [if_pos hp.1, if_pos rfl, List.getD_eq_getElem?_getD, List.getElem?_set_self (by omega)]
    rfl
  · rw [if_neg hx]
    split
    · rw [List.getD_eq_getElem?_getD, List.getElem?_set_ne (by omega), List.getD_eq_getElem?_getD]
    · rfl
theorem setB_sz {K C : Int} {b : Band} (h : b.Sz K C) (pos v : Int) : (setB b pos v).Sz K C := by
  unfold setB Band.Sz at *
  simpa only [List.length_set] using h
theorem setB_has {b : Band} {pos v x : Int} : (setB b pos v).has x ↔ b.has x := by unfold setB Band.has; simp only [List.length_set]

/-- What 'at' does: the band has the position now; its cells are the same. -/
structure BandAt (K C : Int) (pos : Int) (b b' : Band) : Prop where
  sz : b'.Sz K C
  get : ∀ x, b'.get x = b.get x
  has : ∀ x, b.has x → b'.has x
  at' : b'.has pos
/-- The same, before the position is there. -/
structure BandTo (K C : Int) (b b' : Band) : Prop where
  sz : b'.Sz K C
  get : ∀ x, b'.get x = b.get x
  has : ∀ x, b.has x → b'.has x
  pos : 0 < b'.cells.length
theorem BandTo.left {K C : Int} {b b' : Band} (h : BandTo K C b b') {pos : Int} (hp : C - K < pos) (hl : pos + b'.zero < 0) : BandTo K C b (leftB b') :=
  ⟨leftB_sz h.sz hp hl, fun x => (leftB_get b' x).trans (h.get x), fun x hx => leftB_has (h.has x hx), by unfold leftB; simp only [List.length_append]; have := h.pos; omega⟩
theorem BandTo.right {K C : Int} {b b' : Band} (h : BandTo K C b b') {pos : Int} (hp : pos < C + K) (hl : (b'.cells.length : Int) ≤ pos + b'.zero) : BandTo K C b (rightB b') :=
  ⟨rightB_sz h.sz hp hl, fun x => (rightB_get b' x).trans (h.get x), fun x hx => rightB_has (h.has x hx), by unfold rightB; simp only [List.length_append]; have := h.pos; omega⟩
theorem BandTo.fresh {K C : Int} {b : Band} (h : b.cells = []) {pos : Int} (h0 : -K ≤ pos - C - 8) (h1 : pos - C + 8 ≤ K) : BandTo K C b (freshB pos) :=
  ⟨freshB_sz h0 h1, fun x => by rw [freshB_get, Band.nil_get h], fun x hx => by unfold Band.has at hx; rw [h] at hx; simp at hx; omega, by unfold freshB; simp⟩
theorem BandTo.refl {K C : Int} {b : Band} (h : b.Sz K C) (h0 : 0 < b.cells.length) : BandTo K C b b := ⟨h, fun _ => rfl, fun _ h => h, h0⟩

/-- A walk as data. -/
structure Wk where
  band : Band
  state : Int
  pos : Int
  low : Int
  high : Int
def Wk.cf (w : Wk) : Cf := ⟨w.state, w.pos, w.band.get⟩
/-- What holds of a walk: the positions that were touched are within B of C. -/
structure Wk.Inv (K C B : Int) (w : Wk) : Prop where
  sz : w.band.cells ≠ [] → w.band.Sz K C
  out : ∀ x, x < w.low ∨ w.high < x → w.band.get x = 0
  has : ∀ x, w.low ≤ x → x ≤ w.high → w.band.has x
  rg : w.low ≤ w.high → C - B ≤ w.low ∧ w.high ≤ C + B
  ps : (C - B ≤ w.pos ∧ w.pos ≤ C + B) ∨ (w.low ≤ w.high ∧ C ≤ w.low ∧ w.high ≤ C + 100000 ∧ 200000 ≤ B)
  l0 : -2199023255552 ≤ w.low
  l1 : w.low ≤ 2199023255552
  h0 : -2199023255552 ≤ w.high
  h1 : w.high ≤ 2199023255552
  p0 : -1099511627776 ≤ w.pos
  p1 : w.pos ≤ 1099511627776
  lm : w.low ≤ w.high → -1099511627776 ≤ w.low
def Wk.start : Wk := ⟨⟨[], 0⟩, 0, 0, 0, -1⟩
theorem Wk.start_cf : Wk.start.cf = blank := by
  unfold Wk.cf blank
  refine Cf.mk.injEq .. ▸ ⟨rfl, rfl, ?_⟩
  funext x
  exact Band.nil_get rfl x
theorem Wk.start_inv (K : Int) : Wk.start.Inv K 0 0 := by
  refine ⟨fun h => absurd rfl h, fun x _ => Band.nil_get rfl x, fun x h0 h1 => ?_, fun h => ?_, .inl ?_, ?_, ?_, ?_, ?_, ?_, ?_, ?_⟩
  · exact absurd (Int.le_trans h0 h1) (by show ¬ (0 : Int) ≤ -1; omega)
  · exact absurd h (by show ¬ (0 : Int) ≤ -1; omega)
  all_goals simp [Wk.start]

/-- The walk with its range made to hold its position. -/
def Wk.wide (w : Wk) : Wk := if w.low ≤ w.high then { w with low := min w.low w.pos, high := max w.high w.pos } else { w with band := ⟨[], 0⟩, low := w.pos, high := w.pos }
/-- Whether a write leaves all as it is. -/
def Wk.idle (w : Wk) (x : Int) : Prop := x = 0 ∧ (w.pos < w.low ∨ w.high < w.pos)
/-- Whether there would be too many cells. -/
def Wk.over (w : Wk) : Prop := w.low ≤ w.high ∧ 100000 ≤ max w.high w.pos - min w.low w.pos
theorem Wk.Inv.near {K C B : Int} {w : Wk} (h : w.Inv K C B) (ho : ¬ w.over) : C - B ≤ w.pos ∧ w.pos ≤ C + B := by
  rcases h.ps with h' | ⟨h1, h2, h3, h4⟩
  · exact h'
  · unfold Wk.over at ho
    have : ¬ 100000 ≤ max w.high w.pos - min w.low w.pos := fun h => ho ⟨h1, h⟩
    omega
/-- What holds behind 'at' in a write: the range holds the position, the band has the range. -/
structure Wk.Inv2 (K C B : Int) (w : Wk) : Prop where
  sz : w.band.Sz K C
  out : ∀ x, x < w.low ∨ w.high < x → w.band.get x = 0
  has : ∀ x, w.low ≤ x → x ≤ w.high → w.band.has x
  rg : w.low ≤ w.high → C - B ≤ w.low ∧ w.high ≤ C + B
  ps : C - B ≤ w.pos ∧ w.pos ≤ C + B
  l0 : -2199023255552 ≤ w.low
  l1 : w.low ≤ 2199023255552
  h0 : -2199023255552 ≤ w.high
  h1 : w.high ≤ 2199023255552
  p0 : -1099511627776 ≤ w.pos
  p1 : w.pos ≤ 1099511627776
  lm : w.low ≤ w.high → -1099511627776 ≤ w.low
theorem Wk.Inv2.inv {K C B : Int} {w : Wk} (h : w.Inv2 K C B) : w.Inv K C B := ⟨fun _ => h.sz, h.out, h.has, h.rg, .inl h.ps, h.l0, h.l1, h.h0, h.h1, h.p0, h.p1, h.lm⟩
theorem Wk.wide_pos (w : Wk) : w.wide.pos = w.pos := by unfold Wk.wide; split <;> rfl
theorem Wk.wide_state (w : Wk) : w.wide.state = w.state := by unfold Wk.wide; split <;> rfl
theorem Wk.Inv.touch {K C B : Int} {w : Wk} (h : w.Inv K C B) (ho : ¬ w.over) {b : Band} (hb : BandAt K C w.pos w.wide.band b) (v : Int) :
    ({ w.wide with band := setB b w.pos v } : Wk).Inv2 K C B ∧ ∀ x, (setB b w.pos v).get x = if x = w.pos then v else w.band.get x := by
  have hn := h.near ho
  have hl := h.l0; have hl1 := h.l1; have hh := h.h0; have hh1 := h.h1; have hp := h.p0; have hp1 := h.p1
  have hg : ∀ x, w.wide.band.get x = w.band.get x := by
    intro x
    unfold Wk.wide
    split
    · rfl
    · rename_i hlh
      exact (Band.nil_get rfl x).trans (h.out x (by omega)).symm
  have hget : ∀ x, (setB b w.pos v).get x = if x = w.pos then v else w.band.get x := by
    intro x
    rw [setB_get hb.at', hb.get, hg]
  have hm := h.lm
  refine ⟨⟨setB_sz hb.sz _ _, ?_, ?_, ?_, ?_, ?_, ?_, ?_, ?_, ?_, ?_, ?_⟩, hget⟩
  · intro x hx
    show (setB b w.pos v).get x = 0
    rw [hget]
    unfold Wk.wide at hx
    split at hx
    · have hx' : x < min w.low w.pos ∨ max w.high w.pos < x := hx
      rw [if_neg (by omega)]
      exact h.out x (by omega)
    · have hx' : x < w.pos ∨ w.pos < x := hx
      rw [if_neg (by omega)]
      exact h.out x (by omega)
  · intro x hx0 hx1
    show (setB b w.pos v).has x
    rw [setB_has]
    unfold Wk.wide at hx0 hx1
    split at hx0
    · rename_i hlh
      rw [if_pos hlh] at hx1
      have hx0' : min w.low w.pos ≤ x := hx0
      have hx1' : x ≤ max w.high w.pos := hx1
      have a1 := h.has w.low (Int.le_refl _) hlh
      have a2 := h.has w.high hlh (Int.le_refl _)
      have e : w.wide.band = w.band := by unfold Wk.wide; rw [if_pos hlh]
      rw [← e] at a1 a2
      have b1 := hb.has _ a1
      have b2 := hb.has _ a2
      have b3 := hb.at'
      unfold Band.has at *
      omega
    · rename_i hlh
      rw [if_neg hlh] at hx1
      have hx0' : w.pos ≤ x := hx0
      have hx1' : x ≤ w.pos := hx1
      have : x = w.pos := by omega
      rw [this]
      exact hb.at'
  all_goals
    unfold Wk.wide
    split
    · rename_i hlh
      have hr := h.rg hlh
      dsimp only
      omega
    · dsimp only
      omega

/-! ### A step -/
theorem Wk.symbol {K C B : Int} {w : Wk} (h : w.Inv K C B) : w.band.get w.pos = if w.pos < w.low ∨ w.high < w.pos then 0 else w.band.cells.getD (w.pos + w.band.zero).toNat 0 := by
  split
  · rename_i h1; exact h.out _ h1
  · have := h.has w.pos (by omega) (by omega)
    unfold Band.has at this
    unfold Band.get
    rw [if_pos this.1]
theorem Wk.Inv.move {K C B : Int} {w : Wk} (h : w.Inv K C B) {d : Int} (hd : d = -1 ∨ d = 1) (h0 : -1099511627776 ≤ w.pos + d) (h1 : w.pos + d ≤ 1099511627776) (s : Int) : ({ w with pos := w.pos + d, state := s } : Wk).Inv K C (B + 1) := by
  refine ⟨h.sz, h.out, h.has, fun hh => ?_, ?_, h.l0, h.l1, h.h0, h.h1, h0, h1, h.lm⟩
  · have := h.rg hh
    show C - (B + 1) ≤ w.low ∧ w.high ≤ C + (B + 1)
    omega
  · rcases h.ps with h' | ⟨a, b, c, d'⟩
    · left
      show C - (B + 1) ≤ w.pos + d ∧ w.pos + d ≤ C + (B + 1)
      omega
    · exact .inr ⟨a, b, c, by omega⟩
/-! ### Trimming -/
theorem Wk.Inv2.low {K C B : Int} {w : Wk} (h : w.Inv2 K C B) (hC0 : -1100000000000 ≤ C - B) (hC1 : C + B ≤ 1100000000000) (hl : w.low ≤ w.high) (h0 : w.band.get w.low = 0) : ({ w with low := w.low + 1 } : Wk).Inv2 K C B := by
  have hr := h.rg hl
  have a1 := h.l0; have a2 := h.l1; have a3 := h.h0; have a4 := h.h1
  have hm := h.lm hl
  refine ⟨h.sz, fun x hx => ?_, fun x hx0 hx1 => h.has x (by have : w.low + 1 ≤ x := hx0; omega) hx1, fun _ => ?_, h.ps, ?_, ?_, h.h0, h.h1, h.p0, h.p1, fun _ => ?_⟩
  · have hx' : x < w.low + 1 ∨ w.high < x := hx
    by_cases e : x = w.low
    · subst e; exact h0
    · exact h.out x (by omega)
  all_goals (dsimp only; omega)
theorem Wk.Inv2.high {K C B : Int} {w : Wk} (h : w.Inv2 K C B) (hC0 : -1100000000000 ≤ C - B) (hC1 : C + B ≤ 1100000000000) (hl : w.low ≤ w.high) (h0 : w.band.get w.high = 0) : ({ w with high := w.high - 1 } : Wk).Inv2 K C B := by
  have hr := h.rg hl
  have a1 := h.l0; have a2 := h.l1; have a3 := h.h0; have a4 := h.h1
  have hm := h.lm hl
  refine ⟨h.sz, fun x hx => ?_, fun x hx0 hx1 => h.has x hx0 (by have : x ≤ w.high - 1 := hx1; omega), fun _ => ?_, h.ps, h.l0, h.l1, ?_, ?_, h.p0, h.p1, fun _ => hm⟩
  · have hx' : x < w.low ∨ w.high - 1 < x := hx
    by_cases e : x = w.high
    · subst e; exact h0
    · exact h.out x (by omega)
  all_goals (dsimp only; omega)
end Go.Proofs.Ytgnhlaonckognaa
