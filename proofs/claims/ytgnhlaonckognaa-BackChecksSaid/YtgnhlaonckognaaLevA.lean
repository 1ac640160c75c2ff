/- back.Level walked. Conditions: a machine in memory, any number. -/
import Derived.Test.YtgnhlaonckognaaNext
import Derived.Test.YtgnhlaonckognaaPrValid
namespace Go.Proofs.Ytgnhlaonckognaa
open Go.RowKit Go.Proofs.YtgnhlaonckognaaW.PrintWords
set_option linter.unusedVariables false
set_option linter.unusedSimpArgs false

/-- What Level answers: the level and the error's number. -/
def levelR (m : Mc) (k : Int) : List Pt × Int :=
  if m.ok = false then ([], 1)
  else if k < 0 ∨ 100 < k then ([], 2)
  else if ∀ j, j < k.toNat → (levelL m (j + 1)).length ≤ 2000 then (levelL m k.toNat, 0)
  else ([], 4)
def LevelPost (w : World) (r : List Pt × Int) (e : Ending) (w' : World) : Prop :=
  ∃ v, e = .returned (.tuple #[v, .int .i64 r.2]) ∧ PtsM w' w.heap.size v r.1 ∧ New w w'

theorem PtsM.lower {w : World} {base base' : Nat} {v : Value} {l : List Pt} (h : PtsM w base v l) (hb : base' ≤ base) : PtsM w base' v l := Kd.R_lower h hb
def LevelRel (w W0 : World) (m : Mc) (k : Nat) (gk : Nat) (v6 v19 : Value) (wr : World) : Prop :=
  ∃ i : Nat, v19 = .int .i64 i ∧ i + gk = k ∧ PtsM wr w.heap.size v6 (levelL m i) ∧ New W0 wr ∧ (levelL m i).length ≤ 2000 ∧ ∀ j, j < i → (levelL m (j + 1)).length ≤ 2000

theorem firstL_length {m : Mc} (h : m.Good) : (firstL m).length ≤ 24 := by
  have h6 := h.sizes
  refine Nat.le_trans (List.length_filterMap_le _ _) ?_
  have := rulesTo_length_le m 4 h6.2 m.rules.length (Nat.le_refl _)
  rw [rulesTo_all] at this
  have : m.rules.length * 4 ≤ 6 * 4 := Nat.mul_le_mul_right _ h6.1
  omega

/-- Slices as long as Go's can be. -/
def Mc.Sz (m : Mc) : Prop := (∀ row ∈ m.rules, (row.length : Int) ≤ 9223372036854775807) ∧ (m.rules.length : Int) ≤ 9223372036854775807

set_option maxHeartbeats 1000000 in
set_option maxRecDepth 100000 in
theorem call_Level_form (w : World) (m0 m1 : Value) (A0 : Option Addr) (n c0 : Nat) (k : Int) (hv : ∀ W, New w W → Calls Try.prog 31 #[.agg #[m0, m1, .slice A0 n c0]] W fun e w' => e = .returned (.bool false) ∧ New W w') :
    Calls Try.prog 10 #[.agg #[m0, m1, .slice A0 n c0], .int .i64 k] w (LevelPost w ([], 1)) := by
  have hv1 := hv _ ((New.refl w).alloc (.cells #[m0, m1, .slice A0 n c0] 24))
  have HV := Lib.hid hv1
  clear hv hv1
  go_enter Try.func10, Try.ntmps10
  go_wp2_with (go_at_call 31; refine HV.out.mono ?_; rintro e w2 ⟨rfl, hn2⟩; have HN2 := Lib.hid hn2; clear hn2)
  refine bodyPost_ret (v := .tuple #[.slice none 0 0, .int .i64 1]) (by simp [results, Try.results10, go_sem]) rfl ?_
  exact ⟨_, rfl, PtsM.nil _ _, ((New.refl w).alloc _).trans HN2.out⟩

set_option maxHeartbeats 1000000 in
set_option maxRecDepth 100000 in
theorem call_Level_arg (w : World) (m0 m1 : Value) (A0 : Option Addr) (n c0 : Nat) (k : Int) (hv : ∀ W, New w W → Calls Try.prog 31 #[.agg #[m0, m1, .slice A0 n c0]] W fun e w' => e = .returned (.bool true) ∧ New W w') (hk : k < 0 ∨ 100 < k) :
    Calls Try.prog 10 #[.agg #[m0, m1, .slice A0 n c0], .int .i64 k] w (LevelPost w ([], 2)) := by
  have hv1 := hv _ ((New.refl w).alloc (.cells #[m0, m1, .slice A0 n c0] 24))
  have HV := Lib.hid hv1
  clear hv hv1
  rcases hk with hk | hk
  · have hkd1 : decide (k < 0) = true := by simpa using hk
    clear hk
    go_enter Try.func10, Try.ntmps10
    go_wp2_with (go_at_call 31; refine HV.out.mono ?_; rintro e w2 ⟨rfl, hn2⟩; have HN2 := Lib.hid hn2; clear hn2)
    refine bodyPost_ret (v := .tuple #[.slice none 0 0, .int .i64 2]) (by simp [results, Try.results10, go_sem]) rfl ?_
    exact ⟨_, rfl, PtsM.nil _ _, ((New.refl w).alloc _).trans HN2.out⟩
  · have hkd1 : decide (k < 0) = false := by simp; omega
    have hkd2 : decide (100 < k) = true := by simpa using hk
    clear hk
    go_enter Try.func10, Try.ntmps10
    go_wp2_with (go_at_call 31; refine HV.out.mono ?_; rintro e w2 ⟨rfl, hn2⟩; have HN2 := Lib.hid hn2; clear hn2)
    refine bodyPost_ret (v := .tuple #[.slice none 0 0, .int .i64 2]) (by simp [results, Try.results10, go_sem]) rfl ?_
    exact ⟨_, rfl, PtsM.nil _ _, ((New.refl w).alloc _).trans HN2.out⟩

end Go.Proofs.Ytgnhlaonckognaa
