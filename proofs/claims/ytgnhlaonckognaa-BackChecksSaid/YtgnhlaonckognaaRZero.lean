/- ref11.Zero walked. Conditions: a right machine. -/
import Derived.Test.YtgnhlaonckognaaRBef
import Derived.Test.YtgnhlaonckognaaRefPlain
namespace Go.Proofs.Ytgnhlaonckognaa
open Go.RowKit Go.Proofs.YtgnhlaonckognaaW.PrintWords
set_option linter.unusedVariables false
set_option linter.unusedSimpArgs false

theorem sorted_snoc (l : List Pt) (p : Pt) : sorted (l ++ [p]) = addP (sorted l) p := by unfold sorted; rw [List.foldl_append]; rfl
theorem sorted_len (l : List Pt) : (sorted l).length ≤ l.length := nodup_length_le (rising_nodup (rising_sorted l)) fun x hx => mem_sorted.1 hx
theorem PtsV.nil (w : World) : PtsV w (.slice none 0 0) [] := ⟨none, 0, rfl, Nat.le_refl _, Kd.C_nil _ _⟩
theorem reads_lit (x : Int) (w : World) : (Kd.int .i64).C (w.alloc (.cells #[.int .i64 x] 3)) (some ⟨w.heap.size, 0, none⟩) 1 [x] := by
  have := (Kd.R_reads' (R_of_own (own_lit (base := 0) x (heap_alloc_new w (.cells #[.int .i64 x] 3)) (Nat.zero_le _)))).2.2
  exact this
/-- The rules' cells, and the machine's block. -/
structure MachB (w wr : World) (b : Nat) (m0 m1 m2 : Value) : Prop where
  new : New w wr
  blk : wr.heap[b]? = some (.cells #[m0, m1, m2] 24 (0, 0))
theorem MachB.grow {w wr w2 : World} {b : Nat} {m0 m1 m2 : Value} (h : MachB w wr b m0 m1 m2) (hn : New wr w2) : MachB w w2 b m0 m1 m2 := ⟨h.new.trans hn, hn.blk h.blk⟩
def ZRel (w : World) (m0 m1 m2 : Value) (m : Mc) (gk : Nat) (v3 v4 : Value) (wr : World) : Prop :=
  ∃ i : Nat, v4 = .int .i64 i ∧ i + gk = m.rules.length ∧ PtsV wr v3 (sorted ((rulesTo m i).filterMap firstOf)) ∧ MachB w wr w.heap.size m0 m1 m2
def ZRel2 (w : World) (m0 m1 m2 : Value) (m : Mc) (i : Nat) (row : List Rl) (gk : Nat) (v3 v5 : Value) (wr : World) : Prop :=
  ∃ j : Nat, v5 = .int .i64 j ∧ j + gk = row.length ∧ PtsV wr v3 (sorted (firstTo m i row j)) ∧ MachB w wr w.heap.size m0 m1 m2
theorem firstTo_len {m : Mc} (hg : m.Good) {i : Nat} {row : List Rl} {j : Nat} (hi : i < m.rules.length) (hr : row ∈ m.rules) (hj : j ≤ row.length) : (firstTo m i row j).length ≤ 100 := by
  unfold firstTo
  refine Nat.le_trans (List.length_filterMap_le _ _) ?_
  rw [List.length_append, rowTo_length _ _ _ hj]
  have h6 := hg.sizes
  have := rulesTo_length_le m 4 h6.2 i (by omega)
  have : i * 4 ≤ 6 * 4 := Nat.mul_le_mul_right _ (by omega)
  have := h6.2 row hr
  omega
theorem firstTo_cells {m : Mc} {i : Nat} {row : List Rl} {j : Nat} : ∀ q ∈ sorted (firstTo m i row j), (q.cells.length : Int) ≤ 140737488355328 := by
  intro q hq
  obtain ⟨a, _, ha⟩ := List.mem_filterMap.1 (mem_sorted.1 hq)
  unfold firstOf at ha
  split at ha
  · simp only [Option.some.injEq] at ha
    subst ha
    simp
  · simp at ha

set_option maxHeartbeats 8000000 in
set_option maxRecDepth 100000 in
theorem call_Zero (w : World) (m0 m1 m2 : Value) (m : Mc) (hm : MachC w m0 m1 m2 m) (hg : m.Good) :
    Calls Try.prog 34 #[.agg #[m0, m1, m2]] w fun e w' => ∃ v, e = .returned v ∧ PtsV w' v (firstL m) ∧ New w w' := by
  obtain ⟨e0, e1, A, c, e2, hc, hF⟩ := hm
  have HM := Lib.hid (show MachC w m0 m1 m2 m from ⟨e0, e1, A, c, e2, hc, hF⟩)
  have hsz := hg.sizes
  have hlen := hg.len
  have hlrow := hg.row
  have HG := Lib.hid hg
  obtain ⟨n, hn⟩ : ∃ n, n = m.rules.length := ⟨_, rfl⟩
  rw [← hn] at e2 hc hlen
  have HN := Lib.hid hn
  have hn6 : n ≤ 6 := by omega
  obtain ⟨sy, hsy⟩ : ∃ sy : Nat, m.symbols = sy := ⟨m.symbols.toNat, by have := hg.y0; omega⟩
  have hsy4 : sy ≤ 4 := by have := hg.y1; omega
  rw [← hlen] at e0
  rw [hsy] at e1
  have HLR := Lib.hid hlrow; have HSY := Lib.hid hsy
  subst e2
  subst e0
  subst e1
  have hb0 := heap_alloc_new w (.cells #[.int .i64 n, .int .i64 sy, .slice A n c] 24)
  have HB0 := Lib.hid hb0
  clear hg hF hsz hn hlen hlrow hsy hb0
  go_enter Try.func34, Try.ntmps34
  go_wp2
  go_loopg [3, 4, 5] n (fun gk v3 v4 v5 wr => ZRel w (.int .i64 n) (.int .i64 sy) (.slice A n c) m gk v3 v4 wr)
  case atStart => exact ⟨0, rfl, by have := HN.out; omega, PtsV.nil _, ⟨(New.refl w).alloc _, HB0.out⟩⟩
  case round =>
    obtain ⟨i, rfl, hi, hpts, hnew⟩ := hrel
    obtain ⟨gk', hgk⟩ : ∃ g, g = gk := ⟨_, rfl⟩
    subst hgk
    have HP := Lib.hid hpts; have HW := Lib.hid hnew; have HI := Lib.hid hi
    have k0 := blk_cell hnew.blk 0 _ rfl
    clear hpts hnew hi
    by_cases hlt : i < n
    · obtain ⟨ad, A2, c', c2, hA, hc', hrow, hc2, hC⟩ := HM.out.row (i : Int) (by omega) (by have := HN.out; omega)
      injection hA with hA1 hA2 hA3
      subst hA1
      clear hA2 hA3
      rw [Int.toNat_natCast] at hrow hC hc2
      obtain ⟨row, hr⟩ : ∃ row, row = m.rules.getD i [] := ⟨_, rfl⟩
      rw [← hr] at hrow hC hc2
      have hmem : row ∈ m.rules := by rw [hr, List.getD_eq_getElem?_getD, List.getElem?_eq_getElem (by have := HN.out; omega)]; exact List.getElem_mem _
      have hrl : row.length = sy := by have := HLR.out row hmem; rw [HSY.out] at this; omega
      have HROW := Lib.hid hr; have HC := Lib.hid hC; have HMEM := Lib.hid hmem; have HRL := Lib.hid hrl; have HCELL := Lib.hid hrow
      rw [hrl] at hc2
      clear hr hC hmem hrow hrl
      go_wp2
      obtain ⟨wo, rfl⟩ : ∃ wo : World, wo = wr := ⟨_, rfl⟩
      clear k0
      go_loopg [3, 5] sy (fun gk v3 v5 wr2 => ZRel2 w (.int .i64 n) (.int .i64 sy) (.slice (some ad) n c) m i row gk v3 v5 wr2)
      case atStart => exact ⟨0, rfl, by have := HRL.out; omega, by simpa [firstTo, rowTo_zero] using HP.out, HW.out⟩
      case round =>
        obtain ⟨j, rfl, hj, hpts, hnew⟩ := hrel
        have HP2 := Lib.hid hpts; have HW2 := Lib.hid hnew; have HJ := Lib.hid hj
        have k1 := blk_cell hnew.blk 1 _ rfl
        have k2 := blk_cell hnew.blk 2 _ rfl
        clear hpts hnew hj
        by_cases hlt2 : j < sy
        · have hrc := HW2.out.new.cell HCELL.out
          rw [HRL.out] at hrc
          obtain ⟨ad2, hA2, q0, q1, q2⟩ := rule_cells HC.out (j : Int) (by omega) (by have := HRL.out; omega)
          rw [Int.toNat_natCast] at q0 q1 q2
          replace q2 := HW2.out.new.cell q2
          obtain ⟨q, hq⟩ : ∃ q, q = row.getD j default := ⟨_, rfl⟩
          rw [← hq] at q2
          have HQ := Lib.hid hq
          subst hA2
          have hfl := firstTo_len HG.out (by have := HN.out; omega) HMEM.out (show j ≤ row.length by have := HRL.out; omega) (i := i)
          have hrule : (rulesTo m i ++ rowTo i row (j + 1)) = (rulesTo m i ++ rowTo i row j) ++ [((i : Int), (j : Int), q)] := by
            rw [rowTo_succ _ _ _ (by have := HRL.out; omega), List.append_assoc, hq, List.getD_eq_getElem?_getD, List.getElem?_eq_getElem (by have := HRL.out; omega)]; rfl
          have HFL := Lib.hid hfl; have HRULE := Lib.hid hrule
          clear hq q0 q1 hfl hrule
          by_cases hst : q.next = -1
          · have hd : (q.next == -1) = true := by simpa using hst
            have HST := Lib.hid hst
            clear hst
            have hadd := call_Add (wr.alloc (.cells #[.int .i64 j] 3)) _ (sorted (firstTo m i row j)) ⟨i, 0, [(j : Int)]⟩ (some ⟨wr.heap.size, 0, none⟩) 1 (HP2.out.new ((New.refl wr).alloc _)) (reads_lit j wr) (Nat.le_refl 1) (rising_sorted _) (by have := sorted_len (firstTo m i row j); have := HFL.out; omega) firstTo_cells (by simp)
            have HADD := Lib.hid hadd
            clear hadd
            go_wp2_with (go_at_call 24; refine HADD.out.mono ?_; rintro e w4 ⟨v4, rfl, hp4, hn4⟩; have HP4 := Lib.hid hp4; have HN4 := Lib.hid hn4; clear hp4 hn4)
            go_roundg (gk - 1)
            case measure => have := HJ.out; have := HRL.out; omega
            case rel =>
              refine ⟨j + 1, by go_num, by have := HJ.out; have := HRL.out; omega, ?_, (HW2.out.grow ((New.refl wr).alloc _)).grow HN4.out⟩
              have e : firstTo m i row (j + 1) = firstTo m i row j ++ [⟨i, 0, [(j : Int)]⟩] := by
                unfold firstTo
                rw [HRULE.out, List.filterMap_append]
                simp [firstOf, HST.out]
              rw [e, sorted_snoc]
              exact HP4.out
          · have hd : (q.next == -1) = false := by simpa using hst
            have HST := Lib.hid hst
            clear hst
            go_wp2
            go_roundg (gk - 1)
            case measure => have := HJ.out; have := HRL.out; omega
            case rel =>
              refine ⟨j + 1, by go_num, by have := HJ.out; have := HRL.out; omega, ?_, HW2.out⟩
              have e : firstTo m i row (j + 1) = firstTo m i row j := by
                unfold firstTo
                rw [HRULE.out, List.filterMap_append]
                simp [firstOf, HST.out]
              rw [e]
              exact HP2.out
        · have hjn := Lib.hid (show j = row.length by have := HJ.out; have := HRL.out; omega)
          go_wp2
          go_roundg (gk' - 1)
          case measure => have := HI.out; have := HN.out; omega
          case rel =>
            refine ⟨i + 1, by go_num, by have := HI.out; have := HN.out; omega, ?_, HW2.out⟩
            have hlt3 : i < m.rules.length := by have := HN.out; omega
            have e : rulesTo m i ++ rowTo i row j = rulesTo m (i + 1) := by
              rw [rulesTo_succ m i hlt3, hjn.out, HROW.out, List.getD_eq_getElem?_getD, List.getElem?_eq_getElem hlt3]; rfl
            have := HP2.out
            unfold firstTo at this
            rwa [e] at this
    · go_wp2
      go_ret
      have e : i = m.rules.length := by have := HI.out; have := HN.out; omega
      refine ⟨_, rfl, ?_, HW.out.new⟩
      have := HP.out
      rw [e, rulesTo_all] at this
      rwa [show (rulesOf m).filterMap firstOf = firstL m from rfl, sorted_rising (firstL_rising m)] at this
end Go.Proofs.Ytgnhlaonckognaa
