/- What the printed functions Valid compute: whether a machine is right. Conditions: none. -/
import Derived.Test.YtgnhlaonckognaaPBackLevelsx1
import Derived.Test.YtgnhlaonckognaaPBackLevelsx5
import Derived.Test.YtgnhlaonckognaaMem
namespace Go.Proofs.Ytgnhlaonckognaa
open Go.RowKit Go.Proofs.YtgnhlaonckognaaW.PrintWords Go.Proofs.Ytgnhlaonckognaa.PBackLevels
set_option linter.unusedVariables false
set_option linter.unusedSimpArgs false

def toS (r : Rl) : S84 := ⟨r.write, r.move, r.next⟩
def rulesS (m : Mc) : List (List S84) := m.rules.map (List.map toS)

theorem C_map {α β : Type} {d : Kd α} {d' : Kd β} {f : α → β} (hs : d'.sz = d.sz) {w : World} (hK : ∀ x cs, d.K w x cs → d'.K w (f x) cs) {A : Option Addr} {n : Nat} {xs : List α} (h : d.C w A n xs) : d'.C w A n (xs.map f) := by
  obtain ⟨h1, h2, h3⟩ := h
  refine ⟨by simpa using h1, h2, fun hn => ?_⟩
  obtain ⟨ad, e, hc⟩ := h3 hn
  refine ⟨ad, e, fun j p hj => ?_⟩
  rw [List.getElem?_map] at hj
  obtain ⟨q, hq, rfl⟩ := Option.map_eq_some_iff.1 hj
  obtain ⟨c, hl, hk, hcell⟩ := hc j q hq
  exact ⟨c, hl.trans hs.symm, hK q c hk, by rw [hs]; exact hcell⟩
theorem kRl_S {w : World} {x : Rl} {cs : List Value} (h : kRl.K w x cs) : k84.K w (toS x) cs := by
  have := kRl_open h
  subst this
  exact k84_mk w (toS x)
theorem C_rows {w : World} {A : Option Addr} {n : Nat} {xs : List (List Rl)} (h : (Kd.slice 84 kRl).C w A n xs) : (Kd.slice 84 k84).C w A n (xs.map (List.map toS)) :=
  C_map (f := List.map toS) rfl (fun x cs hk => by
    obtain ⟨A, c, rfl, hl, hC⟩ := hk
    exact ⟨A, c, by simp, by simpa using hl, by rw [List.length_map]; exact C_map (d' := k84) (f := toS) rfl (fun x cs hk => kRl_S hk) hC⟩) h

theorem rd_rules (l : List (List Rl)) (i : Int) : rd_L2 (l.map (List.map toS)) i = (l.getD i.toNat []).map toS := by
  unfold rd_L2
  rw [List.getD_eq_getElem?_getD, List.getD_eq_getElem?_getD, List.getElem?_map]
  cases l[i.toNat]? <;> rfl
theorem rd_row (l : List Rl) (i : Int) (h : i.toNat < l.length) : rd_T84 (l.map toS) i = toS (l.getD i.toNat default) := by
  unfold rd_T84
  rw [List.getD_eq_getElem?_getD, List.getD_eq_getElem?_getD, List.getElem?_map, List.getElem?_eq_getElem h]
  rfl
theorem drop_all {α : Type} (p : α → Bool) (l : List α) (j : Int) (d : α) (h0 : 0 ≤ j) (h : j < l.length) : (l.drop j.toNat).all p = (p (l.getD j.toNat d) && (l.drop (j + 1).toNat).all p) := by
  have hl : j.toNat < l.length := by omega
  rw [List.drop_eq_getElem_cons hl, List.all_cons, List.getD_eq_getElem?_getD, List.getElem?_eq_getElem hl, show (j + 1).toNat = j.toNat + 1 by omega]
  rfl
theorem drop_end {α : Type} (p : α → Bool) (l : List α) (j : Int) (h : j = l.length) : (l.drop j.toNat).all p = true := by
  rw [List.drop_eq_nil_of_le (by omega)]; rfl
theorem wrap_one {j : Int} (h0 : 0 ≤ j) (h1 : j < 9223372036854775807) : wrap64 (j + 1) = j + 1 := by unfold wrap64; omega

def rowOk (st sy : Int) (row : List Rl) : Bool := decide ((row.length : Int) = sy) && row.all (Rl.ok st sy)

/-! ### tape.Valid -/
theorem tv_l1 (row : List Rl) (st sy : Int) (R : Bool) (x34 : List (List S84)) (x35 x36 : Int) (rows : List (List S84)) (hl : (row.length : Int) ≤ 9223372036854775807)
    (hcont : Ev (fun k => tape_Valid.l0 k x34 x35 (wrap64 (x36 + 1)) st sy rows) R) (d : Nat) :
    ∀ j : Int, 0 ≤ j → j + d = row.length → Ev (fun k => tape_Valid.l1 k x34 x35 x36 (row.map toS) ((row.map toS).length : Int) j st sy rows) ((row.drop j.toNat).all (Rl.ok st sy) && R) := by
  induction d with
  | zero =>
    intro j h0 h
    refine Ev.step (f := fun k => tape_Valid.l0 k x34 x35 (wrap64 (x36 + 1)) st sy rows) (fun k => by simp only [tape_Valid.l1]; rw [if_neg (by rw [List.length_map]; omega)]) ?_
    rw [drop_end _ _ _ (by omega), Bool.true_and]
    exact hcont
  | succ d ih =>
    intro j h0 h
    rw [drop_all _ _ _ default h0 (by omega), Bool.and_assoc]
    generalize hr : row.getD j.toNat default = r
    have hs : ∀ k, tape_Valid.l1 (k + 1) x34 x35 x36 (row.map toS) ((row.map toS).length : Int) j st sy rows =
        if Rl.ok st sy r = true then tape_Valid.l1 k x34 x35 x36 (row.map toS) ((row.map toS).length : Int) (j + 1) st sy rows else some false := by
      intro k
      simp only [tape_Valid.l1]
      rw [if_pos (by rw [List.length_map]; omega), if_pos h0, if_pos (by rw [List.length_map]; omega), rd_row _ _ (by omega), hr, wrap_one h0 (by omega)]
      unfold toS Rl.ok
      dsimp only
      by_cases a : r.write < 0
      · rw [if_pos a, if_neg (by simp; omega)]
      by_cases b : r.write ≥ sy
      · rw [if_neg a, if_pos b, if_neg (by simp; omega)]
      rw [if_neg a, if_neg b]
      by_cases c : r.move = -1
      · rw [if_pos c]
        by_cases e : r.next < -1
        · rw [if_pos e, if_neg (by simp; omega)]
        by_cases f : r.next ≥ st
        · rw [if_neg e, if_pos f, if_neg (by simp; omega)]
        rw [if_neg e, if_neg f, if_pos (by simp; omega)]
      · rw [if_neg c]
        by_cases c2 : r.move = 1
        · rw [if_pos c2]
          by_cases e : r.next < -1
          · rw [if_pos e, if_neg (by simp; omega)]
          by_cases f : r.next ≥ st
          · rw [if_neg e, if_pos f, if_neg (by simp; omega)]
          rw [if_neg e, if_neg f, if_pos (by simp; omega)]
        · rw [if_neg c2, if_neg (by simp; omega)]
    refine Ev.step hs ?_
    by_cases hok : Rl.ok st sy r = true
    · rw [hok, Bool.true_and]
      simp only [if_true]
      exact ih (j + 1) (by omega) (by omega)
    · have hok' : Rl.ok st sy r = false := by simpa using hok
      simp only [hok', Bool.false_and, Bool.false_eq_true, if_false]
      exact Ev.now _
theorem tv_l0 (rules : List (List Rl)) (st sy : Int) (hl : ∀ row ∈ rules, (row.length : Int) ≤ 9223372036854775807) (hl0 : (rules.length : Int) ≤ 9223372036854775807) (d : Nat) :
    ∀ i : Int, 0 ≤ i → i + d = rules.length → Ev (fun k => tape_Valid.l0 k (rules.map (List.map toS)) (rules.length : Int) i st sy (rules.map (List.map toS))) ((rules.drop i.toNat).all (rowOk st sy)) := by
  induction d with
  | zero =>
    intro i h0 h
    refine Ev.step (f := fun _ => some true) (fun k => by simp only [tape_Valid.l0]; rw [if_neg (by omega)]) ?_
    rw [drop_end _ _ _ (by omega)]
    exact Ev.now _
  | succ d ih =>
    intro i h0 h
    rw [drop_all _ _ _ [] h0 (by omega)]
    have hmem : rules.getD i.toNat [] ∈ rules := by
      rw [List.getD_eq_getElem?_getD, List.getElem?_eq_getElem (show i.toNat < rules.length by omega)]
      exact List.getElem_mem _
    have hlr := hl _ hmem
    generalize hr : rules.getD i.toNat [] = row at *
    have hs : ∀ k, tape_Valid.l0 (k + 1) (rules.map (List.map toS)) (rules.length : Int) i st sy (rules.map (List.map toS)) =
        if (row.length : Int) = sy then tape_Valid.l1 k (rules.map (List.map toS)) (rules.length : Int) i (row.map toS) ((row.map toS).length : Int) 0 st sy (rules.map (List.map toS)) else some false := by
      intro k
      simp only [tape_Valid.l0]
      rw [if_pos (by omega), if_pos h0, if_pos (by rw [List.length_map]; omega), rd_rules, hr, List.length_map]
    refine Ev.step hs ?_
    by_cases hsy : (row.length : Int) = sy
    · simp only [hsy, if_true]
      have := tv_l1 row st sy _ (rules.map (List.map toS)) (rules.length : Int) i (rules.map (List.map toS)) hlr (by rw [wrap_one h0 (by omega)]; exact ih (i + 1) (by omega) (by omega)) row.length 0 (Int.le_refl _) (by omega)
      have e : rowOk st sy row = (row.drop (0 : Int).toNat).all (Rl.ok st sy) := by unfold rowOk; rw [hsy]; simp
      rw [e]
      exact this
    · simp only [if_neg hsy, show rowOk st sy row = false by unfold rowOk; simp [hsy], Bool.false_and]
      exact Ev.now _
theorem Mc.ok_eq (m : Mc) : m.ok = (decide (1 ≤ m.states ∧ m.states ≤ 6 ∧ 2 ≤ m.symbols ∧ m.symbols ≤ 4 ∧ (m.rules.length : Int) = m.states) && m.rules.all (rowOk m.states m.symbols)) := rfl
theorem tv_f (m : Mc) (hl : ∀ row ∈ m.rules, (row.length : Int) ≤ 9223372036854775807) (hl0 : (m.rules.length : Int) ≤ 9223372036854775807) : Ev (fun k => tape_Valid.f k m.states m.symbols (rulesS m)) m.ok := by
  have hj : ∀ b : Bool, Ev (fun k => tape_Valid.j0 k b m.states m.symbols (rulesS m)) (!b && m.rules.all (rowOk m.states m.symbols)) := by
    intro b
    cases b
    · refine Ev.step (f := fun k => tape_Valid.l0 k (rulesS m) ((rulesS m).length : Int) 0 m.states m.symbols (rulesS m)) (fun k => by simp only [tape_Valid.j0]; simp) ?_
      have := tv_l0 m.rules m.states m.symbols hl hl0 m.rules.length 0 (Int.le_refl _) (by omega)
      unfold rulesS
      rw [List.length_map]
      simpa using this
    · exact Ev.step (f := fun _ => some false) (fun k => by simp only [tape_Valid.j0]; simp) (Ev.now _)
  have hlen : ((rulesS m).length : Int) = m.rules.length := by unfold rulesS; simp
  unfold tape_Valid.f
  rw [Mc.ok_eq]
  by_cases a : m.states < 1
  · simp only [if_pos a]; rw [decide_eq_false (by omega)]; exact hj true
  by_cases b : m.states > 6
  · simp only [if_neg a, if_pos b]; rw [decide_eq_false (by omega)]; exact hj true
  by_cases c : m.symbols < 2
  · simp only [if_neg a, if_neg b, if_pos c]; rw [decide_eq_false (by omega)]; exact hj true
  by_cases d : m.symbols > 4
  · simp only [if_neg a, if_neg b, if_neg c, if_pos d]; rw [decide_eq_false (by omega)]; exact hj true
  simp only [if_neg a, if_neg b, if_neg c, if_neg d, hlen]
  have e : decide (1 ≤ m.states ∧ m.states ≤ 6 ∧ 2 ≤ m.symbols ∧ m.symbols ≤ 4 ∧ (m.rules.length : Int) = m.states) = !((m.rules.length : Int) != m.states) := by
    by_cases f : (m.rules.length : Int) = m.states
    · simp [f]; omega
    · rw [decide_eq_false (by omega)]; simp [f]
  rw [e]
  exact hj _


/-! ### standstillref10.Valid -/
theorem rv_l1 (rules : List (List Rl)) (row : List Rl) (st sy : Int) (R : Bool) (i : Int) (hi0 : 0 ≤ i) (hi1 : i < rules.length) (hrow : rules.getD i.toNat [] = row) (hsy : (row.length : Int) = sy) (hl : (row.length : Int) ≤ 9223372036854775807)
    (hcont : Ev (fun k => standstillref10_Valid.l0 k (wrap64 (i + 1)) st sy (rules.map (List.map toS))) R) (d : Nat) :
    ∀ j : Int, 0 ≤ j → j + d = row.length → Ev (fun k => standstillref10_Valid.l1 k i j st sy (rules.map (List.map toS))) ((row.drop j.toNat).all (Rl.ok st sy) && R) := by
  induction d with
  | zero =>
    intro j h0 h
    refine Ev.step (f := fun k => standstillref10_Valid.l0 k (wrap64 (i + 1)) st sy (rules.map (List.map toS))) (fun k => by simp only [standstillref10_Valid.l1]; rw [if_neg (by omega)]) ?_
    rw [drop_end _ _ _ (by omega), Bool.true_and]
    exact hcont
  | succ d ih =>
    intro j h0 h
    rw [drop_all _ _ _ default h0 (by omega), Bool.and_assoc]
    generalize hr : row.getD j.toNat default = r
    have hs : ∀ k, standstillref10_Valid.l1 (k + 1) i j st sy (rules.map (List.map toS)) =
        if Rl.ok st sy r = true then standstillref10_Valid.l1 k i (j + 1) st sy (rules.map (List.map toS)) else some false := by
      intro k
      simp only [standstillref10_Valid.l1]
      rw [if_pos (by omega), if_pos hi0, if_pos (by rw [List.length_map]; omega), if_pos h0, rd_rules, hrow, if_pos (by rw [List.length_map]; omega), rd_row _ _ (by omega), hr, wrap_one h0 (by omega)]
      unfold toS Rl.ok
      dsimp only
      by_cases a : r.write < 0
      · rw [if_pos a, if_neg (by simp; omega)]
      by_cases b : r.write ≥ sy
      · rw [if_neg a, if_pos b, if_neg (by simp; omega)]
      rw [if_neg a, if_neg b]
      by_cases c : r.move = -1
      · rw [if_pos c]
        by_cases e : r.next < -1
        · rw [if_pos e, if_neg (by simp; omega)]
        by_cases f : r.next ≥ st
        · rw [if_neg e, if_pos f, if_neg (by simp; omega)]
        rw [if_neg e, if_neg f, if_pos (by simp; omega)]
      · rw [if_neg c]
        by_cases c2 : r.move = 1
        · rw [if_pos c2]
          by_cases e : r.next < -1
          · rw [if_pos e, if_neg (by simp; omega)]
          by_cases f : r.next ≥ st
          · rw [if_neg e, if_pos f, if_neg (by simp; omega)]
          rw [if_neg e, if_neg f, if_pos (by simp; omega)]
        · rw [if_neg c2, if_neg (by simp; omega)]
    refine Ev.step hs ?_
    by_cases hok : Rl.ok st sy r = true
    · rw [hok, Bool.true_and]
      simp only [if_true]
      exact ih (j + 1) (by omega) (by omega)
    · have hok' : Rl.ok st sy r = false := by simpa using hok
      simp only [hok', Bool.false_and, Bool.false_eq_true, if_false]
      exact Ev.now _
theorem rv_l0 (rules : List (List Rl)) (st sy : Int) (hl : ∀ row ∈ rules, (row.length : Int) ≤ 9223372036854775807) (hl0 : (rules.length : Int) ≤ 9223372036854775807) (hst : (rules.length : Int) = st) (d : Nat) :
    ∀ i : Int, 0 ≤ i → i + d = rules.length → Ev (fun k => standstillref10_Valid.l0 k i st sy (rules.map (List.map toS))) ((rules.drop i.toNat).all (rowOk st sy)) := by
  induction d with
  | zero =>
    intro i h0 h
    refine Ev.step (f := fun _ => some true) (fun k => by simp only [standstillref10_Valid.l0]; rw [if_neg (by omega)]) ?_
    rw [drop_end _ _ _ (by omega)]
    exact Ev.now _
  | succ d ih =>
    intro i h0 h
    rw [drop_all _ _ _ [] h0 (by omega)]
    have hmem : rules.getD i.toNat [] ∈ rules := by
      rw [List.getD_eq_getElem?_getD, List.getElem?_eq_getElem (show i.toNat < rules.length by omega)]
      exact List.getElem_mem _
    have hlr := hl _ hmem
    generalize hr : rules.getD i.toNat [] = row at *
    have hs : ∀ k, standstillref10_Valid.l0 (k + 1) i st sy (rules.map (List.map toS)) =
        if (row.length : Int) = sy then standstillref10_Valid.l1 k i 0 st sy (rules.map (List.map toS)) else some false := by
      intro k
      simp only [standstillref10_Valid.l0]
      rw [if_pos (by omega), if_pos h0, if_pos (by rw [List.length_map]; omega), rd_rules, hr, List.length_map]
    refine Ev.step hs ?_
    by_cases hsy : (row.length : Int) = sy
    · simp only [if_pos hsy]
      have := rv_l1 rules row st sy _ i h0 (by omega) hr hsy hlr (by rw [wrap_one h0 (by omega)]; exact ih (i + 1) (by omega) (by omega)) row.length 0 (Int.le_refl _) (by omega)
      have e : rowOk st sy row = (row.drop (0 : Int).toNat).all (Rl.ok st sy) := by unfold rowOk; rw [hsy]; simp
      rw [e]
      exact this
    · simp only [if_neg hsy, show rowOk st sy row = false by unfold rowOk; simp [hsy], Bool.false_and]
      exact Ev.now _
theorem rv_f (m : Mc) (hl : ∀ row ∈ m.rules, (row.length : Int) ≤ 9223372036854775807) (hl0 : (m.rules.length : Int) ≤ 9223372036854775807) : Ev (fun k => standstillref10_Valid.f k m.states m.symbols (rulesS m)) m.ok := by
  have hlen : ((rulesS m).length : Int) = m.rules.length := by unfold rulesS; simp
  have hT : ∀ R : Bool, R = false → Ev (fun k => standstillref10_Valid.j0 k true m.states m.symbols (rulesS m)) R := by
    intro R hR
    subst hR
    exact Ev.step (f := fun _ => some false) (fun k => by simp only [standstillref10_Valid.j0]; simp) (Ev.now _)
  unfold standstillref10_Valid.f
  rw [Mc.ok_eq]
  by_cases a : m.states < 1
  · simp only [if_pos a]; exact hT _ (by rw [decide_eq_false (by omega)]; rfl)
  by_cases b : m.states > 6
  · simp only [if_neg a, if_pos b]; exact hT _ (by rw [decide_eq_false (by omega)]; rfl)
  by_cases c : m.symbols < 2
  · simp only [if_neg a, if_neg b, if_pos c]; exact hT _ (by rw [decide_eq_false (by omega)]; rfl)
  by_cases d : m.symbols > 4
  · simp only [if_neg a, if_neg b, if_neg c, if_pos d]; exact hT _ (by rw [decide_eq_false (by omega)]; rfl)
  simp only [if_neg a, if_neg b, if_neg c, if_neg d, hlen]
  by_cases f : (m.rules.length : Int) = m.states
  · have e : decide (1 ≤ m.states ∧ m.states ≤ 6 ∧ 2 ≤ m.symbols ∧ m.symbols ≤ 4 ∧ (m.rules.length : Int) = m.states) = true := decide_eq_true (by omega)
    have e2 : ((m.rules.length : Int) != m.states) = false := by simp [f]
    rw [e, Bool.true_and, e2]
    refine Ev.step (f := fun k => standstillref10_Valid.l0 k 0 m.states m.symbols (rulesS m)) (fun k => by simp only [standstillref10_Valid.j0]; simp) ?_
    have := rv_l0 m.rules m.states m.symbols hl hl0 f m.rules.length 0 (Int.le_refl _) (by omega)
    simpa [rulesS] using this
  · have e2 : ((m.rules.length : Int) != m.states) = true := by simp [f]
    rw [e2]
    exact hT _ (by rw [decide_eq_false (by omega)]; rfl)

/-! ### contracts -/
theorem call_tapeValid (w : World) (m0 m1 m2 : Value) (m : Mc) (hm : MachC w m0 m1 m2 m) (hl : ∀ row ∈ m.rules, (row.length : Int) ≤ 9223372036854775807) (hl0 : (m.rules.length : Int) ≤ 9223372036854775807) :
    Calls Try.prog 31 #[.agg #[m0, m1, m2]] w fun e w' => e = .returned (.bool m.ok) ∧ New w w' := by
  obtain ⟨k, hk⟩ := (tv_f m hl hl0).rounds
  obtain ⟨rfl, rfl, A, c, rfl, hc, hF⟩ := hm
  have hlen : (rulesS m).length = m.rules.length := by unfold rulesS; simp
  have hC := C_rows (Kd.F_now hF)
  have := tape_Valid.calls k m.states m.symbols A c (rulesS m) m.ok w (by rw [hlen]; exact hC) (by rw [hlen]; exact hc) hk
  rw [hlen] at this
  exact this.mono fun e w' ⟨he, hb⟩ => ⟨he, ⟨hb⟩⟩
theorem call_refValid (w : World) (m0 m1 m2 : Value) (m : Mc) (hm : MachC w m0 m1 m2 m) (hl : ∀ row ∈ m.rules, (row.length : Int) ≤ 9223372036854775807) (hl0 : (m.rules.length : Int) ≤ 9223372036854775807) :
    Calls Try.prog 18 #[.agg #[m0, m1, m2]] w fun e w' => e = .returned (.bool m.ok) ∧ New w w' := by
  obtain ⟨k, hk⟩ := (rv_f m hl hl0).rounds
  obtain ⟨rfl, rfl, A, c, rfl, hc, hF⟩ := hm
  have hlen : (rulesS m).length = m.rules.length := by unfold rulesS; simp
  have hC := C_rows (Kd.F_now hF)
  have := standstillref10_Valid.calls k m.states m.symbols A c (rulesS m) m.ok w (by rw [hlen]; exact hC) (by rw [hlen]; exact hc) hk
  rw [hlen] at this
  exact this.mono fun e w' ⟨he, hb⟩ => ⟨he, ⟨hb⟩⟩
/-- The error for a machine and a number of levels. -/
def codeI (m : Mc) (k : Int) : Int := if m.ok = true then (if k < 0 then 2 else if k > 100 then 2 else 0) else 1
theorem call_code (w : World) (m0 m1 m2 : Value) (m : Mc) (n : Int) (hm : MachC w m0 m1 m2 m) (hl : ∀ row ∈ m.rules, (row.length : Int) ≤ 9223372036854775807) (hl0 : (m.rules.length : Int) ≤ 9223372036854775807) :
    Calls Try.prog 11 #[.agg #[m0, m1, m2], .int .i64 n] w fun e w' => e = .returned (.int .i64 (codeI m n)) ∧ New w w' := by
  have hk0 : Ev (fun k => standstilllaw11_code.f k m.states m.symbols (rulesS m) n) (codeI m n) := by
    unfold standstilllaw11_code.f
    refine Ev.bind (f := fun _ t => if t = true then (if n < 0 then some 2 else if n > 100 then some 2 else some 0) else some 1) (rv_f m hl hl0) ?_
    unfold codeI
    cases m.ok
    · exact Ev.now _
    · by_cases a : n < 0
      · simp only [if_true, if_pos a]; exact Ev.now _
      by_cases b : n > 100
      · simp only [if_true, if_neg a, if_pos b]; exact Ev.now _
      · simp only [if_true, if_neg a, if_neg b]; exact Ev.now _
  obtain ⟨k, hk⟩ := hk0.rounds
  obtain ⟨rfl, rfl, A, c, rfl, hc, hF⟩ := hm
  have hlen : (rulesS m).length = m.rules.length := by unfold rulesS; simp
  have hC := C_rows (Kd.F_now hF)
  have := standstilllaw11_code.calls k m.states m.symbols A c (rulesS m) n (codeI m n) w (by rw [hlen]; exact hC) (by rw [hlen]; exact hc) hk
  rw [hlen] at this
  exact this.mono fun e w' ⟨he, hb⟩ => ⟨he, ⟨hb⟩⟩

end Go.Proofs.Ytgnhlaonckognaa
