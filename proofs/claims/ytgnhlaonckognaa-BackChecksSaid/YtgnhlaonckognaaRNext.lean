/- ref11.Next walked. Conditions: a right machine, at most 2000 right elements. -/
import Derived.Test.YtgnhlaonckognaaRZero
import Derived.Test.YtgnhlaonckognaaNext
import Derived.Deep.DeepCutAuto
namespace Go.Proofs.Ytgnhlaonckognaa
open Go.RowKit Go.Proofs.YtgnhlaonckognaaW.PrintWords
set_option linter.unusedVariables false
set_option linter.unusedSimpArgs false

/-- What the call of Before leaves. -/
def NxBox (wr : World) (o : Option Pt) (s9 s10 : Value) (wx : World) : Prop :=
  New wr wx ∧ ((o = none ∧ s10 = .bool false) ∨ ∃ q g A c, o = some q ∧ s10 = .bool true ∧ s9 = .pointer (some ⟨g, 0, none⟩) ∧ wx.heap[g]? = some (.cells #[.int .i64 q.state, .int .i64 q.head, .slice A q.cells.length c] 36 (0, 0)) ∧ q.cells.length ≤ c ∧ (Kd.int .i64).C wx A q.cells.length q.cells)
theorem nx_keep {w w' : World} {a1 a2 a3 a4 a5 a6 : Addr} {v1 v2 v3 v4 v5 v6 : Value} (h1 : w.cell? a1 = some v1) (h2 : w.cell? a2 = some v2) (h3 : w.cell? a3 = some v3) (h4 : w.cell? a4 = some v4) (h5 : w.cell? a5 = some v5) (h6 : w.cell? a6 = some v6) (hN : New w w') :
    w'.cell? a1 = some v1 ∧ w'.cell? a2 = some v2 ∧ w'.cell? a3 = some v3 ∧ w'.cell? a4 = some v4 ∧ w'.cell? a5 = some v5 ∧ w'.cell? a6 = some v6 ∧ New w w' :=
  ⟨hN.cell h1, hN.cell h2, hN.cell h3, hN.cell h4, hN.cell h5, hN.cell h6, hN⟩
theorem bcellR {W w1 : World} (hb : Below W.heap.size W w1) : (∀ b o, b < W.heap.size → w1.cell? ⟨b, o, none⟩ = W.cell? ⟨b, o, none⟩) ∧ (∀ b o, b < W.heap.size → w1.frozen? ⟨b, o, none⟩ = W.frozen? ⟨b, o, none⟩) :=
  ⟨fun b o h => hb.cell (p := ⟨b, o, none⟩) h, fun b o h => hb.frozen (p := ⟨b, o, none⟩) h⟩
theorem nx_set3 {wr w2 : World} {o : Obj} (h : New (wr.alloc o).drew w2) (hn : New wr w2) (u0 u1 u2 : Value) : New wr (((w2.setCell ⟨wr.heap.size, 0, none⟩ u0).setCell ⟨wr.heap.size, 1, none⟩ u1).setCell ⟨wr.heap.size, 2, none⟩ u2) :=
  ((hn.set (p := ⟨wr.heap.size, 0, none⟩) (Nat.le_refl _) u0).set (p := ⟨wr.heap.size, 1, none⟩) (Nat.le_refl _) u1).set (p := ⟨wr.heap.size, 2, none⟩) (Nat.le_refl _) u2
theorem nx_a {wr w2 : World} {base : Nat} {r : Pt} {o : Option Pt} {Ar : Option Addr} {cr : Nat} (hn : New wr w2) (ho : w2.ownsRow base 3 1 (.slice Ar r.cells.length cr) r.cells.length (nums .i64 r.cells)) (h : o = some r) :
    NxBox wr o (.pointer (some ⟨w2.heap.size, 0, none⟩)) (.bool true) (w2.alloc (.cells #[.int .i64 r.state, .int .i64 r.head, .slice Ar r.cells.length cr] 36)) := by
  have hr := Kd.R_reads' (R_of_own ho)
  exact ⟨hn.alloc _, .inr ⟨r, _, Ar, cr, h, rfl, rfl, heap_alloc_new _ _, hr.2.1, Kd.C_below hr.2.2 ((New.refl w2).alloc _).below⟩⟩
theorem nx_b {wr w2 : World} {base : Nat} {r : Pt} {o : Option Pt} {Ar : Option Addr} {cr : Nat} (hnew : New (wr.alloc (.cells #[.int .i64 0, .int .i64 0, .slice none 0 0] 36)).drew w2) (hn : New wr w2) (ho : w2.ownsRow base 3 1 (.slice Ar r.cells.length cr) r.cells.length (nums .i64 r.cells)) (h : o = some r) :
    NxBox wr o (.pointer (some ⟨wr.heap.size, 0, none⟩)) (.bool true) (((w2.setCell ⟨wr.heap.size, 0, none⟩ (.int .i64 r.state)).setCell ⟨wr.heap.size, 1, none⟩ (.int .i64 r.head)).setCell ⟨wr.heap.size, 2, none⟩ (.slice Ar r.cells.length cr)) := by
  have hb0 : w2.heap[wr.heap.size]? = some (.cells #[.int .i64 0, .int .i64 0, .slice none 0 0] 36 (0, 0)) := hnew.blk (heap_alloc_new wr _)
  have ho2 := own_set_blk (own_set_blk (own_set_blk ho hb0 (by decide) 0 (.int .i64 r.state)) (blk_set hb0 0 _) (by decide) 1 (.int .i64 r.head)) (blk_set (blk_set hb0 0 _) 1 _) (by decide) 2 (.slice Ar r.cells.length cr)
  have hr := Kd.R_reads' (R_of_own ho2)
  exact ⟨nx_set3 hnew hn _ _ _, .inr ⟨r, _, Ar, cr, h, rfl, rfl, part_store hb0 rfl _ _ _, hr.2.1, hr.2.2⟩⟩
def NRel (w : World) (m0 m1 m2 : Value) (m : Mc) (l : List Pt) (gk : Nat) (v5 v6 : Value) (wr : World) : Prop :=
  ∃ i : Nat, v6 = .int .i64 i ∧ i + gk = l.length ∧ PtsV wr v5 (sorted (predsL m (l.take i))) ∧ MachB w wr w.heap.size m0 m1 m2
def NRel2 (w : World) (m0 m1 m2 : Value) (m : Mc) (pre : List Pt) (p : Pt) (gk : Nat) (v5 v7 : Value) (wr : World) : Prop :=
  ∃ j : Nat, v7 = .int .i64 j ∧ j + gk = m.rules.length ∧ PtsV wr v5 (sorted (pre ++ predsRow p (rulesTo m j))) ∧ MachB w wr w.heap.size m0 m1 m2
def NRel3 (w : World) (m0 m1 m2 : Value) (m : Mc) (pre : List Pt) (p : Pt) (j : Nat) (row : List Rl) (gk : Nat) (v5 v8 : Value) (wr : World) : Prop :=
  ∃ x : Nat, v8 = .int .i64 x ∧ x + gk = row.length ∧ PtsV wr v5 (sorted (pre ++ predsRow p (rulesTo m j ++ rowTo j row x))) ∧ MachB w wr w.heap.size m0 m1 m2

set_option maxHeartbeats 16000000 in
set_option maxRecDepth 100000 in
theorem call_RNext (w : World) (m0 m1 m2 : Value) (m : Mc) (hm : MachC w m0 m1 m2 m) (hg : m.Good) (A0 : Option Addr) (c0 : Nat) (l : List Pt) (hl : l.length ≤ 2000) (hC : Kd.C kPt w A0 l.length l) (hok : ∀ p ∈ l, p.Ok ∧ p.cells.length ≤ 1000) :
    Calls Try.prog 35 #[.agg #[m0, m1, m2], .slice A0 l.length c0] w fun e w' => ∃ v, e = .returned v ∧ PtsV w' v (nextL m l) ∧ New w w' := by
  obtain ⟨e0, e1, A, c, e2, hc, hF⟩ := hm
  have HM := Lib.hid (show MachC w m0 m1 m2 m from ⟨e0, e1, A, c, e2, hc, hF⟩)
  have hsz := hg.sizes
  have hlen := hg.len
  have hlrow := hg.row
  have HG := Lib.hid hg
  obtain ⟨n, hn⟩ : ∃ n, n = m.rules.length := ⟨_, rfl⟩
  rw [← hn] at e2 hc hlen
  have HN := Lib.hid hn
  have hn6 : n ≤ 6 := by omega
  obtain ⟨sy, hsy⟩ : ∃ sy : Nat, m.symbols = sy := ⟨m.symbols.toNat, by have := hg.y0; omega⟩
  have hsy4 : sy ≤ 4 := by have := hg.y1; omega
  rw [← hlen] at e0
  rw [hsy] at e1
  obtain ⟨n1, hn1⟩ : ∃ n1, n1 = l.length := ⟨_, rfl⟩
  have HL := Lib.hid hn1
  have hl' : n1 ≤ 2000 := by omega
  rw [← hn1]
  have HLR := Lib.hid hlrow; have HSY := Lib.hid hsy; have HLC := Lib.hid hC; have HOK := Lib.hid hok
  subst e2
  subst e0
  subst e1
  have hb0 := heap_alloc_new w (.cells #[.int .i64 n, .int .i64 sy, .slice A n c] 24)
  have HB0 := Lib.hid hb0
  clear hg hF hsz hn hlen hlrow hsy hb0 hC hok hn1 hl
  go_enter Try.func35, Try.ntmps35
  go_wp2
  go_loopg [5, 6, 7, 8, 9, 10] n1 (fun gk v5 v6 v7 v8 v9 v10 wr => NRel w (.int .i64 n) (.int .i64 sy) (.slice A n c) m l gk v5 v6 wr)
  case atStart => exact ⟨0, rfl, by have := HL.out; omega, PtsV.nil _, ⟨(New.refl w).alloc _, HB0.out⟩⟩
  case round =>
    obtain ⟨i, rfl, hi, hpts, hnew⟩ := hrel
    obtain ⟨gk', hgk⟩ : ∃ g, g = gk := ⟨_, rfl⟩
    subst hgk
    have HP := Lib.hid hpts; have HW := Lib.hid hnew; have HI := Lib.hid hi
    clear hpts hnew hi
    by_cases hlt : i < n1
    · obtain ⟨adl, Ap, cp, hAl, p0, p1, p2, hpC⟩ := pt_cells HLC.out (i : Int) (by omega) (by have := HL.out; omega)
      rw [Int.toNat_natCast] at p0 p1 p2 hpC
      obtain ⟨p, hp⟩ : ∃ p, p = l.getD i default := ⟨_, rfl⟩
      rw [← hp] at p0 p1 p2 hpC
      have hli : i < l.length := by have := HL.out; omega
      have hp' : p = l[i] := by rw [hp, List.getD_eq_getElem?_getD, List.getElem?_eq_getElem hli]; rfl
      have hpo := HOK.out p (by rw [hp']; exact List.getElem_mem _)
      have HPO := Lib.hid hpo; have HPE := Lib.hid hp'; have HPC := Lib.hid hpC
      have P0 := Lib.hid p0; have P1 := Lib.hid p1; have P2 := Lib.hid p2
      subst hAl
      clear hp hp' hpo hpC p0 p1 p2
      go_wp2
      obtain ⟨wo, rfl⟩ : ∃ wo : World, wo = wr := ⟨_, rfl⟩
      go_loopg [5, 7, 8, 9, 10] n (fun gk v5 v7 v8 v9 v10 wr2 => NRel2 w (.int .i64 n) (.int .i64 sy) (.slice A n c) m (predsL m (l.take i)) p gk v5 v7 wr2)
      case atStart => exact ⟨0, rfl, by have := HN.out; omega, by simpa [rulesTo_zero, predsRow] using HP.out, HW.out⟩
      case round =>
        obtain ⟨j, rfl, hj, hpts, hnew⟩ := hrel
        obtain ⟨gk2, hgk2⟩ : ∃ g, g = gk := ⟨_, rfl⟩
        subst hgk2
        have HP3 := Lib.hid hpts; have HW3 := Lib.hid hnew; have HJ := Lib.hid hj
        have k0 := blk_cell hnew.blk 0 _ rfl
        clear hpts hnew hj
        by_cases hlt2 : j < n
        · have hjl : j < m.rules.length := by have := HN.out; omega
          obtain ⟨row, hr⟩ : ∃ row, m.rules[j]? = some row := ⟨_, List.getElem?_eq_getElem hjl⟩
          have hmem : row ∈ m.rules := List.mem_of_getElem? hr
          have hrl : row.length = sy := by have := HLR.out row hmem; rw [HSY.out] at this; omega
          have HROW := Lib.hid hr; have HMEM := Lib.hid hmem; have HRL := Lib.hid hrl
          clear hr hmem hrl
          go_wp2
          obtain ⟨wo2, rfl⟩ : ∃ wo : World, wo = wr := ⟨_, rfl⟩
          clear k0
          go_loopg [5, 8, 9, 10] sy (fun gk v5 v8 v9 v10 wr3 => NRel3 w (.int .i64 n) (.int .i64 sy) (.slice A n c) m (predsL m (l.take i)) p j row gk v5 v8 wr3)
          case atStart => exact ⟨0, rfl, by have := HRL.out; omega, by simpa [rowTo_zero] using HP3.out, HW3.out⟩
          case round =>
            obtain ⟨x, rfl, hx, hpts, hnew⟩ := hrel
            have HP4 := Lib.hid hpts; have HW4 := Lib.hid hnew; have HX := Lib.hid hx
            have k0 := blk_cell hnew.blk 0 _ rfl
            have k1 := blk_cell hnew.blk 1 _ rfl
            have k2 := blk_cell hnew.blk 2 _ rfl
            clear hpts hnew hx
            by_cases hlt3 : x < sy
            · obtain ⟨q, hq⟩ : ∃ q, row[x]? = some q := ⟨_, List.getElem?_eq_getElem (by have := HRL.out; omega)⟩
              obtain ⟨adm, cm, adr, cr, em, hra⟩ := HM.out.ruleAt HROW.out hq
              injection em with em1 em2 em3
              subst em1; subst em3
              have hmv := (HG.out.rule row HMEM.out q (List.mem_of_getElem? hq)).mv
              have hcall := fun W (hW : New w W) => call_rbef W (.int .i64 n) (.int .i64 sy) m n p j x q adm c adr cr row.length (hra.new hW) (by omega) hn6 (by have := HRL.out; omega) hmv Ap cp ((C_reads HPC.out).below hW.below) HPO.out.1 (by have := HPO.out.2; omega)
              have HCALL := Lib.hid hcall; have HQ := Lib.hid hq
              have z0 := HW4.out.new.cell P0.out
              have z1 := HW4.out.new.cell P1.out
              have z2 := HW4.out.new.cell P2.out
              clear em2 hq hra hcall hmv
              go_upto_region 11 with fail
              go_cut [9, 10] (fun s9 s10 wx => NxBox wr (before p j x q) s9 s10 wx)
              case first =>
                cases hbo : before p j x q with
                | none =>
                  rw [hbo] at HCALL
                  have HBO := Lib.hid hbo
                  clear hbo
                  go_region_held3 (fun w' => w'.cell? ⟨w.heap.size, 0, none⟩ = some (.int .i64 n) ∧ w'.cell? ⟨w.heap.size, 1, none⟩ = some (.int .i64 sy) ∧ w'.cell? ⟨w.heap.size, 2, none⟩ = some (.slice (some adm) n c) ∧ w'.cell? (adl.add (i * 3)) = some (.int .i64 p.state) ∧ w'.cell? ⟨(adl.add (i * 3)).block, (adl.add (i * 3)).off + 1, none⟩ = some (.int .i64 p.head) ∧ w'.cell? ⟨(adl.add (i * 3)).block, (adl.add (i * 3)).off + 2, none⟩ = some (.slice Ap p.cells.length cp) ∧ New wr w') (first | (refine nx_keep k0 k1 k2 z0 z1 z2 ?_; (repeat (first | assumption | exact New.refl _ | exact Nat.le_refl _ | refine New.drew ?_ | refine New.alloc ?_ _ | refine New.set ?_ ?_ _)); done)) (first | (go_at_call 55; refine (HCALL.out _ ?_).mono ?_; (refine HW4.out.new.trans ?_; (repeat (first | assumption | exact New.refl _ | refine New.drew ?_ | refine New.alloc ?_ _))); rintro e w2 ⟨hnb, rfl⟩; have HNB := Lib.hid hnb; have hn2 : New wr w2 := (by refine New.trans ?_ hnb; (repeat (first | assumption | exact New.refl _ | refine New.drew ?_ | refine New.alloc ?_ _))); obtain ⟨hce, hfz⟩ := bcellR hnb.below; clear hnb))
                  all_goals
                    go_wp2
                    go_meet
                    first
                      | exact ⟨hn2.alloc _, .inl ⟨HBO.out, rfl⟩⟩
                      | exact ⟨nx_set3 HNB.out hn2 _ _ _, .inl ⟨HBO.out, rfl⟩⟩
                | some r =>
                  rw [hbo] at HCALL
                  have HBO := Lib.hid hbo
                  clear hbo
                  go_region_held3 (fun w' => w'.cell? ⟨w.heap.size, 0, none⟩ = some (.int .i64 n) ∧ w'.cell? ⟨w.heap.size, 1, none⟩ = some (.int .i64 sy) ∧ w'.cell? ⟨w.heap.size, 2, none⟩ = some (.slice (some adm) n c) ∧ w'.cell? (adl.add (i * 3)) = some (.int .i64 p.state) ∧ w'.cell? ⟨(adl.add (i * 3)).block, (adl.add (i * 3)).off + 1, none⟩ = some (.int .i64 p.head) ∧ w'.cell? ⟨(adl.add (i * 3)).block, (adl.add (i * 3)).off + 2, none⟩ = some (.slice Ap p.cells.length cp) ∧ New wr w') (first | (refine nx_keep k0 k1 k2 z0 z1 z2 ?_; (repeat (first | assumption | exact New.refl _ | exact Nat.le_refl _ | refine New.drew ?_ | refine New.alloc ?_ _ | refine New.set ?_ ?_ _)); done)) (first | (go_at_call 55; refine (HCALL.out _ ?_).mono ?_; (refine HW4.out.new.trans ?_; (repeat (first | assumption | exact New.refl _ | refine New.drew ?_ | refine New.alloc ?_ _))); rintro e w2 ⟨hnb, v, rfl, hown⟩; obtain ⟨Ar, cr2, hv⟩ := own_slice hown; have HOWN := Lib.hid hown; subst hv; clear hown; have HNB := Lib.hid hnb; have hn2 : New wr w2 := (by refine New.trans ?_ hnb; (repeat (first | assumption | exact New.refl _ | refine New.drew ?_ | refine New.alloc ?_ _))); obtain ⟨hce, hfz⟩ := bcellR hnb.below; clear hnb))
                  all_goals
                    go_wp2
                    go_meet
                    first
                      | exact nx_a hn2 HOWN.out HBO.out
                      | exact nx_b HNB.out hn2 HOWN.out HBO.out
              case rest =>
                obtain ⟨hnx, hbx⟩ := hcut
                have HNX := Lib.hid hnx
                have hpr : predsRow p (rulesTo m j ++ rowTo j row (x + 1)) = predsRow p (rulesTo m j ++ rowTo j row x) ++ (before p j x q).toList := by
                  have hlt4 : x < row.length := by have := HRL.out; omega
                  have hqq := HQ.out
                  rw [List.getElem?_eq_getElem hlt4] at hqq
                  injection hqq with hqq
                  rw [rowTo_succ _ _ _ hlt4, ← List.append_assoc, predsRow_snoc, hqq]
                have HPR := Lib.hid hpr
                clear hpr z0 z1 z2 k0 k1 k2 hnx
                rcases hbx with ⟨hb, rfl⟩ | ⟨r, g, Ar, cr2, hb, rfl, rfl, hblk, hcr, hCr⟩
                · have HB := Lib.hid hb
                  clear hb
                  go_wp2
                  go_roundg (gk - 1)
                  case measure => have := HX.out; have := HRL.out; omega
                  case rel =>
                    refine ⟨x + 1, by go_num, by have := HX.out; have := HRL.out; omega, ?_, HW4.out.grow HNX.out⟩
                    rw [HPR.out, HB.out]
                    simpa using HP4.out.new HNX.out
                · have hsz2 : (sorted (predsL m (l.take i) ++ predsRow p (rulesTo m j ++ rowTo j row x))).length ≤ 1000000 := by
                    refine Nat.le_trans (sorted_len _) ?_
                    rw [List.length_append]
                    have h6 := HG.out.sizes
                    have a1 := predsL_length m 24 (by
                      have := rulesTo_length_le m 4 h6.2 m.rules.length (Nat.le_refl _)
                      rw [rulesTo_all] at this
                      have : m.rules.length * 4 ≤ 6 * 4 := Nat.mul_le_mul_right _ h6.1
                      omega) (l.take i)
                    have a2 : (l.take i).length * 24 ≤ 2000 * 24 := Nat.mul_le_mul_right _ (by rw [List.length_take]; have := HL.out; omega)
                    have a3 := predsRow_length p (rulesTo m j ++ rowTo j row x)
                    have a4 := rulesTo_length_le m 4 h6.2 j (by have := HN.out; omega)
                    have a5 : j * 4 ≤ 6 * 4 := Nat.mul_le_mul_right _ (by omega)
                    rw [List.length_append, rowTo_length _ _ _ (by have := HRL.out; omega)] at a3
                    omega
                  have hcl2 : ∀ q ∈ sorted (predsL m (l.take i) ++ predsRow p (rulesTo m j ++ rowTo j row x)), (q.cells.length : Int) ≤ 140737488355328 := by
                    intro q' hq'
                    rcases List.mem_append.1 (mem_sorted.1 hq') with h1 | h1
                    · have := predsL_len 1000 (fun z hz => (HOK.out z (List.mem_of_mem_take hz)).2) q' h1
                      omega
                    · obtain ⟨sxr, _, h2⟩ := List.mem_filterMap.1 h1
                      have := before_len h2
                      have := HPO.out.2
                      omega
                  have hrl2 := before_len hb
                  have hadd := call_Add wc _ _ r Ar cr2 (HP4.out.new HNX.out) hCr hcr (rising_sorted _) (by omega) hcl2 (by have := HPO.out.2; omega)
                  have HADD := Lib.hid hadd; have HB := Lib.hid hb
                  have b0 := blk_cell hblk 0 _ rfl
                  have b1 := blk_cell hblk 1 _ rfl
                  have b2 := blk_cell hblk 2 _ rfl
                  clear hadd hb hsz2 hcl2 hrl2 hblk hCr hcr
                  go_wp2_with (go_at_call 24; refine HADD.out.mono ?_; rintro e w5 ⟨v5', rfl, hp5, hn5⟩; have HP5 := Lib.hid hp5; have HN5 := Lib.hid hn5; clear hp5 hn5)
                  go_roundg (gk - 1)
                  case measure => have := HX.out; have := HRL.out; omega
                  case rel =>
                    refine ⟨x + 1, by go_num, by have := HX.out; have := HRL.out; omega, ?_, (HW4.out.grow HNX.out).grow HN5.out⟩
                    rw [HPR.out, HB.out, Option.toList_some, ← List.append_assoc, sorted_snoc]
                    exact HP5.out
            · have hxn := Lib.hid (show x = row.length by have := HX.out; have := HRL.out; omega)
              go_wp2
              go_roundg (gk2 - 1)
              case measure => have := HJ.out; have := HN.out; omega
              case rel =>
                refine ⟨j + 1, by go_num, by have := HJ.out; have := HN.out; omega, ?_, HW4.out⟩
                have hlt5 : j < m.rules.length := by have := HN.out; omega
                have e : rulesTo m j ++ rowTo j row x = rulesTo m (j + 1) := by
                  have hrr := HROW.out
                  rw [List.getElem?_eq_getElem hlt5] at hrr
                  injection hrr with hrr
                  rw [rulesTo_succ m j hlt5, hxn.out, hrr]
                have := HP4.out
                rwa [e] at this
        · have hjn := Lib.hid (show j = m.rules.length by have := HJ.out; have := HN.out; omega)
          go_wp2
          go_roundg (gk' - 1)
          case measure => have := HI.out; have := HL.out; omega
          case rel =>
            refine ⟨i + 1, by go_num, by have := HI.out; have := HL.out; omega, ?_, HW3.out⟩
            rw [predsL_take m l i (by have := HL.out; omega), ← HPE.out]
            have := HP3.out
            rwa [hjn.out, rulesTo_all] at this
    · go_wp2
      go_ret
      have e : i = l.length := by have := HI.out; have := HL.out; omega
      refine ⟨_, rfl, ?_, HW.out.new⟩
      have := HP.out
      rw [e, List.take_length] at this
      exact this
end Go.Proofs.Ytgnhlaonckognaa
