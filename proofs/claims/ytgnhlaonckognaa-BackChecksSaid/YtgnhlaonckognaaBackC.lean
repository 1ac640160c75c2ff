/- Lists of partial configurations of the call's own; back.first walked. Conditions: a right machine. -/
import Derived.Test.YtgnhlaonckognaaBackB
namespace Go.Proofs.Ytgnhlaonckognaa
open Go.RowKit Go.Proofs.YtgnhlaonckognaaW.PrintWords
set_option linter.unusedVariables false
set_option linter.unusedSimpArgs false

/-- A list of partial configurations of the call's own. -/
def PtsM (w : World) (base : Nat) (v : Value) (l : List Pt) : Prop := Kd.R kPt 36 w base (fun _ => True) v l
theorem PtsM.new {w w1 : World} {base : Nat} {v : Value} {l : List Pt} (h : PtsM w base v l) (hn : New w w1) : PtsM w1 base v l := Kd.R_below h hn.below
theorem PtsM.nil (w : World) (base : Nat) : PtsM w base (.slice none 0 0) [] := Kd.R_nil _ _ _ _ _
theorem PtsM.shape {w : World} {base : Nat} {v : Value} {l : List Pt} (h : PtsM w base v l) : ∃ A c, v = .slice A l.length c := Kd.R_slice h
theorem info_pt : (Try.prog.info? 36).map (fun i => (i.zero, i.size, i.bytes)) = some (some (.agg #[.int .i64 0, .int .i64 0, .slice none 0 0]), 3, 40) := by kernel_rfl
theorem M_pt {w : World} {base base' n : Nat} {v : Value} {inner : List Value} {p : Pt} {v2 : Value} (h2 : w.ownsRow base 3 1 v2 p.cells.length (nums .i64 p.cells)) (h : w.ownsRow base' 36 3 v n inner) :
    kPt.M w base (fun k => some k ≠ v.ownBlock) p [.int .i64 p.state, .int .i64 p.head, v2] := by
  refine ⟨[.int .i64 p.state], [.int .i64 p.head, v2], rfl, rfl, ⟨[.int .i64 p.head], [v2], rfl, rfl, ⟨v2, rfl, ?_⟩⟩⟩
  refine ⟨fun k hk => ?_, (R_of_own h2).2⟩
  rcases own_type_ne h2 h (by decide) with e | e
  · rw [e] at hk; cases hk
  · rw [← hk]; exact e

/-- 'append(v, p)', a list of partial configurations of the call's own. -/
theorem app_pt {ops : Array Oper} {rest : List Oper} {o : Oper} {a : Act} {Q : Exit → Act → World → Prop} {w W : World} (hgd : o.guard = none) (s x : Operand)
    (ho : o.op = .call { callee := .builtin .append, args := #[s, x], argTypes := #[25, 25] }) (v : Value) (xs : List Pt) (p : Pt) (v2 : Value) (kb : Nat) (hkb : W.heap.size = kb) (hs : a.eval s = v)
    (hx : a.eval x = .slice (some ⟨kb, 0, none⟩) 1 1) (HO : PtsM W w.heap.size v xs) (h2 : W.ownsRow w.heap.size 3 1 v2 p.cells.length (nums .i64 p.cells)) (hn : New w W) (hl : xs.length ≤ 1000000000)
    (h : ∀ v1 w1, PtsM w1 w.heap.size v1 (xs ++ [p]) → New w w1 → W.grownBy w1 v.ownBlock → wpList Try.prog ops Q rest (a.put o.dst v1) w1) :
    wpList Try.prog ops Q (o :: rest) a (W.alloc (.cells [.int .i64 p.state, .int .i64 p.head, v2].toArray 36)) := by
  subst hkb
  obtain ⟨inner, hown⟩ := Kd.R_own HO
  refine Kd.R_append kPt (w0 := w) w.heap.size hgd s x 25 36 (.agg #[.int .i64 0, .int .i64 0, .slice none 0 0]) 40 ho Try.underlying25 info_pt rfl (by decide) (by decide) v xs p [.int .i64 p.state, .int .i64 p.head, v2] (fun _ => True) (fun k => some k ≠ v.ownBlock) hs hx (M_pt h2 hown) (fun k hk => ⟨trivial, hk⟩) (fun _ _ => trivial) HO hn.below hn.size (by omega) ?_
  intro v1 w1 hR hb hg hat
  exact h v1 w1 hR ⟨hb⟩ hg

/-- A slice literal of one int. -/
theorem own_lit {w : World} {base b : Nat} (x : Int) (h : w.heap[b]? = some (.cells #[.int .i64 x] 3 (0, 0))) (hb : base ≤ b) : w.ownsRow base 3 1 (.slice (some ⟨b, 0, none⟩) 1 1) [x].length (nums .i64 [x]) :=
  own_of_blk (xs := [x]) h hb (Nat.le_refl _) (by unfold maxLen; simp) rfl (fun j hj => by
    have : j = 0 := by simpa using hj
    subst this
    rfl)

/-! ### back.first -/
def firstTo (m : Mc) (i : Nat) (row : List Rl) (j : Nat) : List Pt := (rulesTo m i ++ rowTo i row j).filterMap firstOf
def FirstRel (w : World) (m : Mc) (gk : Nat) (v3 v11 : Value) (wr : World) : Prop :=
  ∃ i : Nat, v11 = .int .i64 i ∧ i + gk = m.rules.length ∧ PtsM wr w.heap.size v3 ((rulesTo m i).filterMap firstOf) ∧ New w wr
def FirstRel2 (w : World) (m : Mc) (i : Nat) (row : List Rl) (gk : Nat) (v3 v18 : Value) (wr : World) : Prop :=
  ∃ j : Nat, v18 = .int .i64 j ∧ j + gk = row.length ∧ PtsM wr w.heap.size v3 (firstTo m i row j) ∧ New w wr
theorem Mc.Good.sizes {m : Mc} (h : m.Good) : m.rules.length ≤ 6 ∧ ∀ row ∈ m.rules, row.length ≤ 4 := by
  refine ⟨by have := h.len; have := h.s1; omega, fun row hr => ?_⟩
  have := h.row row hr; have := h.y1; omega
theorem MachC.new {w w1 : World} {m0 m1 m2 : Value} {m : Mc} (h : MachC w m0 m1 m2 m) (hn : New w w1) : MachC w1 m0 m1 m2 m := h.below hn.below

set_option maxHeartbeats 4000000 in
set_option maxRecDepth 100000 in
theorem call_first (w : World) (m0 m1 m2 : Value) (m : Mc) (hm : MachC w m0 m1 m2 m) (hg : m.Good) :
    Calls Try.prog 32 #[.agg #[m0, m1, m2]] w fun e w' => ∃ v, e = .returned v ∧ PtsM w' w.heap.size v (firstL m) ∧ New w w' := by
  obtain ⟨e0, e1, A, c, e2, hc, hF⟩ := hm
  have HM := Lib.hid (show MachC w m0 m1 m2 m from ⟨e0, e1, A, c, e2, hc, hF⟩)
  have hsz := hg.sizes
  have HG := Lib.hid hg
  obtain ⟨n, hn⟩ : ∃ n, n = m.rules.length := ⟨_, rfl⟩
  rw [← hn] at e2 hc
  have HN := Lib.hid hn
  have hn6 : n ≤ 6 := by omega
  subst e2
  clear hg hF e0 e1 hsz hn
  go_enter Try.func32, Try.ntmps32
  go_wp2
  go_loopg [3, 11] n (fun gk v3 v11 wr => FirstRel w m gk v3 v11 wr)
  case atStart => exact ⟨0, rfl, by have := HN.out; omega, PtsM.nil _ _, (New.refl w).alloc _⟩
  case round =>
    obtain ⟨i, rfl, hi, hpts, hnew⟩ := hrel
    obtain ⟨gk', hgk⟩ : ∃ g, g = gk := ⟨_, rfl⟩
    subst hgk
    have HP := Lib.hid hpts; have HW := Lib.hid hnew; have HI := Lib.hid hi
    clear hpts hnew hi
    by_cases hlt : i < n
    · obtain ⟨ad, A2, c', c2, hA, hc', hrow, hc2, hC⟩ := HM.out.row (i : Int) (by omega) (by have := HN.out; omega)
      injection hA with hA1 hA2 hA3
      subst hA1
      clear hA2 hA3
      rw [Int.toNat_natCast] at hrow hC hc2
      obtain ⟨row, hr⟩ : ∃ row, row = m.rules.getD i [] := ⟨_, rfl⟩
      rw [← hr] at hrow hC hc2
      replace hrow := HW.out.cell hrow
      have HROW := Lib.hid hr; have HC := Lib.hid hC
      have hrow4 : row.length ≤ 4 := by
        rw [hr]
        have : m.rules.getD i [] ∈ m.rules := by rw [List.getD_eq_getElem?_getD, List.getElem?_eq_getElem (by have := HN.out; omega)]; exact List.getElem_mem _
        exact HG.out.sizes.2 _ this
      clear hr hC
      go_wp2
      go_loopg [3, 18] row.length (fun gk v3 v18 wr2 => FirstRel2 w m i row gk v3 v18 wr2)
      case atStart => exact ⟨0, rfl, by omega, by simpa [firstTo, rowTo_zero] using HP.out, HW.out⟩
      case round =>
        obtain ⟨j, rfl, hj, hpts, hnew⟩ := hrel
        have HP2 := Lib.hid hpts; have HW2 := Lib.hid hnew; have HJ := Lib.hid hj
        clear hpts hnew hj
        by_cases hlt2 : j < row.length
        · obtain ⟨ad2, hA2, k0, k1, k2⟩ := rule_cells HC.out (j : Int) (by omega) (by omega)
          rw [Int.toNat_natCast] at k0 k1 k2
          replace k0 := HW2.out.cell k0
          replace k1 := HW2.out.cell k1
          replace k2 := HW2.out.cell k2
          obtain ⟨q, hq⟩ : ∃ q, q = row.getD j default := ⟨_, rfl⟩
          rw [← hq] at k0 k1 k2
          have HQ := Lib.hid hq
          subst hA2
          clear hq
          have hsz2 : (firstTo m i row j).length ≤ 100 := by
            unfold firstTo
            refine Nat.le_trans (List.length_filterMap_le _ _) ?_
            rw [List.length_append, rowTo_length _ _ _ (by omega)]
            have h6 := HG.out.sizes
            have := rulesTo_length_le m 4 h6.2 i (by have := HN.out; omega)
            have : i * 4 ≤ 6 * 4 := Nat.mul_le_mul_right _ (by omega)
            omega
          have hrule : (rulesTo m i ++ rowTo i row (j + 1)) = (rulesTo m i ++ rowTo i row j) ++ [((i : Int), (j : Int), q)] := by
            rw [rowTo_succ _ _ _ hlt2, List.append_assoc, HQ.out, List.getD_eq_getElem?_getD, List.getElem?_eq_getElem hlt2]; rfl
          obtain ⟨Ao, co, hv3⟩ := HP2.out.shape
          subst hv3
          have HSZ := Lib.hid hsz2; have HRULE := Lib.hid hrule
          clear hsz2 hrule
          by_cases hst : q.next = -1
          · have hd : (q.next == -1) = true := by simpa using hst
            have HST := Lib.hid hst
            clear hst
            have hn2 : New w ((wr.alloc (.cells #[.int .i64 q.write, .int .i64 q.move, .int .i64 q.next] 84)).alloc (.cells #[.int .i64 j] 3)) := (HW2.out.alloc _).alloc _
            have HN2 := Lib.hid hn2
            have HB2 := Lib.hid (heap_alloc_at (wr.alloc (.cells #[.int .i64 q.write, .int .i64 q.move, .int .i64 q.next] 84)) (.cells #[.int .i64 j] 3) (wr.heap.size + 1) (by simp))
            have HP3 := Lib.hid (HP2.out.new (((New.refl wr).alloc (.cells #[.int .i64 q.write, .int .i64 q.move, .int .i64 q.next] 84)).alloc (.cells #[.int .i64 j] 3)))
            clear hn2
            go_wp2_with (at_builtin; refine app_pt (w := w) (W := (wr.alloc (.cells #[.int .i64 q.write, .int .i64 q.move, .int .i64 q.next] 84)).alloc (.cells #[.int .i64 j] 3)) rfl (.tmp 26) (.tmp 31) rfl (.slice Ao (firstTo m i row j).length co) (firstTo m i row j) ⟨i, 0, [(j : Int)]⟩ (.slice (some ⟨wr.heap.size + 1, 0, none⟩) 1 1) (wr.heap.size + 1 + 1) (by simp) rfl rfl HP3.out (own_lit _ HB2.out (Nat.le_trans HW2.out.size (Nat.le_succ _))) HN2.out (Nat.le_trans HSZ.out (by decide)) ?_; intro v4 w4 hpts4 hnew4 _; have HP4 := Lib.hid hpts4; have HN4 := Lib.hid hnew4; clear hpts4 hnew4)
            go_roundg (gk - 1)
            case measure => have := HJ.out; omega
            case rel =>
              refine ⟨j + 1, by go_num, by have := HJ.out; omega, ?_, HN4.out⟩
              have e : firstTo m i row (j + 1) = firstTo m i row j ++ [⟨i, 0, [(j : Int)]⟩] := by
                unfold firstTo
                rw [HRULE.out, List.filterMap_append]
                simp [firstOf, HST.out]
              rw [e]
              exact HP4.out
          · have hd : (q.next == -1) = false := by simpa using hst
            have HST := Lib.hid hst
            clear hst
            go_wp2
            go_roundg (gk - 1)
            case measure => have := HJ.out; omega
            case rel =>
              refine ⟨j + 1, by go_num, by have := HJ.out; omega, ?_, HW2.out.alloc _⟩
              have e : firstTo m i row (j + 1) = firstTo m i row j := by
                unfold firstTo
                rw [HRULE.out, List.filterMap_append]
                simp [firstOf, HST.out]
              rw [e]
              exact HP2.out.new ((New.refl wr).alloc _)
        · have hjn := Lib.hid (show j = row.length by have := HJ.out; omega)
          go_wp2
          go_roundg (gk' - 1)
          case measure => have := HI.out; have := HN.out; omega
          case rel =>
            refine ⟨i + 1, by go_num, by have := HI.out; have := HN.out; omega, ?_, HW2.out⟩
            have hlt3 : i < m.rules.length := by have := HN.out; omega
            have e : rulesTo m i ++ rowTo i row j = rulesTo m (i + 1) := by
              rw [rulesTo_succ m i hlt3, hjn.out, HROW.out, List.getD_eq_getElem?_getD, List.getElem?_eq_getElem hlt3]; rfl
            have := HP2.out
            unfold firstTo at this
            rwa [e] at this
    · go_wp2
      go_ret
      have e : i = m.rules.length := by have := HI.out; have := HN.out; omega
      refine ⟨_, rfl, ?_, HW.out⟩
      have := HP.out
      rw [e, rulesTo_all] at this
      exact this
end Go.Proofs.Ytgnhlaonckognaa
