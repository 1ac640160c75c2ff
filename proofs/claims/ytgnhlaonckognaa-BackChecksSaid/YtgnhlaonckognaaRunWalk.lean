/- The reference's run walked: Cell, put, Step, Go. Conditions: rows shorter than 2^40. -/
import Derived.Test.YtgnhlaonckognaaMem
namespace Go.Proofs.Ytgnhlaonckognaa
open Go.RowKit Go.Proofs.YtgnhlaonckognaaW.PrintWords
set_option linter.unusedVariables false
set_option linter.unusedSimpArgs false

theorem own_at {w : World} {base : Nat} {e : TypeId} {v : Value} {k : IntKind} {xs : List Int} (h : w.ownsRow base e 1 v xs.length (nums k xs)) (h0 : 0 < xs.length) :
    ∃ g c, v = .slice (some ⟨g, 0, none⟩) xs.length c ∧ ∀ j, j < xs.length → w.cell? ⟨g, j, none⟩ = some (.int k (xs.getD j 0)) := by
  obtain ⟨g, cap, rfl, _, _⟩ := h.form h0
  refine ⟨g, cap, rfl, fun j hj => ?_⟩
  have hq := h.cells (g := g) rfl j (.int k (xs.getD j 0)) (by simp [nums, List.getElem?_eq_getElem hj, List.getD_eq_getElem?_getD])
  rwa [add_plain] at hq

set_option maxHeartbeats 1000000 in
theorem run_Cell (w : World) (base b : Nat) (ok : Nat → Prop) (m0 m1 m2 : Value) (r : Rn) (x : Int) (h : RunM w base b ok m0 m1 m2 r) (hx0 : -1099511627776 ≤ x) (hx1 : x ≤ 1099511627776) :
    Calls Try.prog 39 #[.pointer (some ⟨b, 0, none⟩), .int .i64 x] w fun e w' => e = .returned (.int .i64 (r.cell x)) ∧ w = w' := by
  obtain ⟨RV, LV, hb, hok, hR, hRo, hL, hLo, hne⟩ := h
  obtain ⟨A, c, hRV⟩ := own_slice hR
  obtain ⟨A', c', hLV⟩ := own_slice hL
  have c5 := blk_cell hb 5 RV rfl
  have c6 := blk_cell hb 6 LV rfl
  rw [hRV] at c5; rw [hLV] at c6
  by_cases hx : 0 ≤ x
  · have hd : decide (0 ≤ x) = true := by simpa using hx
    have hn : decide (x < 0) = false := by simpa using hx
    have ev : r.cell x = r.right.getD x.toNat 0 := by unfold Rn.cell cellL; rw [if_pos hx]
    by_cases hl : x < r.right.length
    · obtain ⟨g, c2, he, hcell⟩ := own_at hR (by omega)
      rw [hRV] at he
      injection he with e1 e2 e3
      subst e1
      have hc := hcell x.toNat (by omega)
      generalize r.right.getD x.toNat 0 = vv at hc ev
      have EV := Lib.hid ev
      clear hcell hne hRo hLo hR hL hRV hLV hb ev e3
      go_enter Try.func39, Try.ntmps39
      go_wp2
      go_ret
      exact ⟨ret_i EV.out.symm, rfl⟩
    · have ev2 : r.right.getD x.toNat 0 = 0 := by rw [List.getD_eq_getElem?_getD, List.getElem?_eq_none (by omega)]; rfl
      have EV := Lib.hid (ev.trans ev2)
      have hl' : decide (x < (r.right.length : Int)) = false := by simpa using hl
      clear hne hRo hLo hR hL hRV hLV hb ev ev2
      go_enter Try.func39, Try.ntmps39
      go_wp2
      go_ret
      exact ⟨ret_i EV.out.symm, rfl⟩
  · have hd : decide (0 ≤ x) = false := by simpa using hx
    have hn : decide (x < 0) = true := by simpa using hx
    have ev : r.cell x = r.left.getD (-1 - x).toNat 0 := by unfold Rn.cell cellL; rw [if_neg hx]
    by_cases hl : -1 - x < r.left.length
    · obtain ⟨g, c2, he, hcell⟩ := own_at hL (by omega)
      rw [hLV] at he
      injection he with e1 e2 e3
      subst e1
      have hc := hcell (-1 - x).toNat (by omega)
      generalize r.left.getD (-1 - x).toNat 0 = vv at hc ev
      have EV := Lib.hid ev
      clear hcell hne hRo hLo hR hL hRV hLV hb ev e3
      go_enter Try.func39, Try.ntmps39
      go_wp2
      go_ret
      exact ⟨ret_i EV.out.symm, rfl⟩
    · have ev2 : r.left.getD (-1 - x).toNat 0 = 0 := by rw [List.getD_eq_getElem?_getD, List.getElem?_eq_none (by omega)]; rfl
      have EV := Lib.hid (ev.trans ev2)
      have hl' : decide (-1 - x < (r.left.length : Int)) = false := by simpa using hl
      clear hne hRo hLo hR hL hRV hLV hb ev ev2
      go_enter Try.func39, Try.ntmps39
      go_wp2
      go_ret
      exact ⟨ret_i EV.out.symm, rfl⟩

/-- What holds of the row while it is made longer. -/
def Longer (w : World) (base b : Nat) (ok : Nat → Prop) (m0 m1 m2 : Value) (r : Rn) (i gk : Nat) (wr : World) : Prop :=
  ∃ j, j + gk = i + 1 - r.right.length ∧ RunM wr base b (Sn ok w) m0 m1 m2 { r with right := r.right ++ List.replicate j 0 } ∧ Chg ok w wr

set_option maxHeartbeats 2000000 in
theorem run_put (w : World) (base b : Nat) (ok : Nat → Prop) (m0 m1 m2 : Value) (r : Rn) (v : Int) (h : RunM w base b ok m0 m1 m2 r) (hp0 : 0 ≤ r.pos) (hp1 : r.pos ≤ 1099511627776) (hr : r.right.length ≤ 1099511627776) (hbase : base ≤ w.heap.size) :
    Calls Try.prog 56 #[.pointer (some ⟨b, 0, none⟩), .int .i64 v] w fun e w' => e = .returned (.tuple #[]) ∧ RunM w' base b (Sn ok w) m0 m1 m2 (r.put v) ∧ Chg ok w w' := by
  have h4 : w.cell? ⟨b, 4, none⟩ = some (.int .i64 r.pos) := by obtain ⟨RV, LV, hb, _⟩ := h; exact blk_cell hb 4 _ rfl
  have hd : decide (0 ≤ r.pos) = true := by simpa using hp0
  have H := Lib.hid h
  clear h
  go_enter Try.func56, Try.ntmps56
  go_wp2
  go_loopg [] (r.pos.toNat + 1 - r.right.length) (fun gk wr => Longer w base b ok m0 m1 m2 r r.pos.toNat gk wr)
  case atStart => exact ⟨0, by omega, by simpa using H.out.mono (fun k hk => .inl hk), Chg.refl _ _⟩
  case round =>
    obtain ⟨j, hj, hrun, hchg⟩ := hrel
    obtain ⟨R, hRR⟩ : ∃ R, R = r.right ++ List.replicate j 0 := ⟨_, rfl⟩
    rw [← hRR] at hrun
    have hlen : R.length = r.right.length + j := by rw [hRR]; simp
    obtain ⟨RV, LV, hb, hok, hR, hRo, hL, hLo, hne⟩ := hrun
    dsimp only at hb hR hRo hL hLo
    have hbr : base ≤ wr.heap.size := Nat.le_trans hbase hchg.size
    have HRR := Lib.hid hRR; clear hRR
    have HLEN := Lib.hid hlen
    have HJ := Lib.hid hj
    obtain ⟨A, c, hRV⟩ := own_slice hR
    have c4 := blk_cell hb 4 _ rfl
    have c5 := blk_cell hb 5 RV rfl
    have f5 := blk_free hb 5
    by_cases hlt : (R.length : Int) ≤ r.pos
    · have hd2 : decide ((R.length : Int) ≤ r.pos) = true := by simpa using hlt
      rw [hRV] at c5
      have HB := Lib.hid hb; have HR := Lib.hid hR; have HL := Lib.hid hL; have HRV := Lib.hid hRV; have HNE := Lib.hid hne
      clear hb hR hL hlen hj hRV hne
      go_wp2
      go_quiet (fail)
      have hnb : ¬ (Value.slice A R.length c).ownBlock = some b := by have := HR.out; rw [HRV.out] at this; exact own_not_blk this HB.out (by decide)
      go_wp2_with (at_builtin; refine app_i64 (W := wr.drewN _) base rfl (.tmp 23) (.tmp 24) rfl (.slice A R.length c) R 0 rfl rfl (by have := HR.out; rw [HRV.out] at this; exact own_move this (fun k hk => rfl)) hbr (by omega) ?_; intro g c2 w1 hown hc1 hat; have hb1 := Lib.hid (hc1.blk (k := b) HB.out hnb); have c5b := blk_cell hb1.out 5 RV rfl; have f5b := blk_free hb1.out 5)
      go_roundg (gk - 1)
      case measure => have := HLEN.out; have := HJ.out; omega
      case rel =>
        have hR1 := HR.out; rw [HRV.out] at hR1
        have hcg : Chg (Sn ok w) wr w1 := ⟨hc1.os, hc1.tape, hc1.output, hc1.size, fun k hk hn => hc1.block k hk (fun e => hn (hRo k (by rw [HRV.out]; exact e)))⟩
        have hg : Sn ok w g := hat.elim (fun e => hRo g (by rw [HRV.out]; exact e)) (fun e => .inr (Nat.le_trans hchg.size e))
        have hL1 := own_move (w1 := w1) HL.out (fun k hk => hc1.block k (own_lt HL.out k hk) (fun e => HNE.out k (by rw [HRV.out]; exact e) hk))
        refine ⟨j + 1, by have := HJ.out; have := HLEN.out; omega, ⟨.slice (some ⟨g, 0, none⟩) (R.length + 1) c2, LV, ?_, hok, ?_, ?_, ?_, hLo, ?_⟩, ?_⟩
        · have := blk_set hb1.out 5 (.slice (some ⟨g, 0, none⟩) (R.length + 1) c2)
          simpa using this
        · have e : r.right ++ List.replicate (j + 1) 0 = R ++ [0] := by rw [HRR.out, List.replicate_succ']; simp
          dsimp only
          rw [e]
          exact own_set_blk hown hb1.out (by decide) 5 _
        · intro k hk; have : g = k := by simpa [Value.ownBlock] using hk
          exact this ▸ hg
        · exact own_set_blk hL1 hb1.out (by decide) 5 _
        · intro k hk hk2
          have : g = k := by simpa [Value.ownBlock] using hk
          subst this
          rcases hat with e | e
          · exact HNE.out g (by rw [HRV.out]; exact e) hk2
          · exact absurd (own_lt HL.out g hk2) (by have : wr.heap.size ≤ g := e; omega)
        · exact hchg.trans (hcg.setCell (.inl (by exact hok)) _)
    · have hd2 : decide ((R.length : Int) ≤ r.pos) = false := by simpa using hlt
      obtain ⟨g, c', he, hcell⟩ := own_at hR (by omega)
      rw [hRV] at he
      injection he with e1 e2 e3
      subst e1; subst e3
      have hcp := hcell r.pos.toNat (by omega)
      rw [hRV] at c5
      have hfz : wr.frozen? ⟨g, r.pos.toNat, none⟩ = false := by
        obtain ⟨cells, hcs⟩ := own_typed hR g (by rw [hRV]; rfl)
        exact blk_free hcs _
      have HB := Lib.hid hb; have HR := Lib.hid hR; have HL := Lib.hid hL; have HRV := Lib.hid hRV; have HNE := Lib.hid hne
      clear hb hR hL hlen hj hRV hne hcell f5
      go_wp2
      go_quiet (fail)
      go_wp2
      go_region
      go_wp2
      refine bodyPost_ret (results_none rfl _ _ _) rfl ?_
      have hR1 := HR.out; rw [HRV.out] at hR1
      have hgb : g ≠ b := fun e => own_not_blk hR1 HB.out (by decide) (by subst e; rfl)
      have hput : r.put v = { r with right := R.set r.pos.toNat v } := by
        unfold Rn.put putL
        rw [if_pos hp0]
        have e : R = r.right ++ List.replicate (r.pos.toNat + 1 - r.right.length) 0 := by
          rw [HRR.out]; congr 2; have := HJ.out; have := HLEN.out; omega
        rw [e]
      refine ⟨rfl, ?_, ?_⟩
      · rw [hput]
        refine ⟨.slice (some ⟨g, 0, none⟩) R.length c, LV, ?_, hok, ?_, ?_, ?_, hLo, ?_⟩
        · exact (Below.heap_setCell _ _ _ _ (by exact fun e => hgb e.symm)).trans (by have := HB.out; rw [HRV.out] at this; exact this)
        · have := (World.ownsRow.stored (own_move (w1 := wr.drewN (nq + 1)) hR1 (fun k hk => rfl)) r.pos.toNat (.int .i64 v)).1
          simpa [nums, List.map_set] using this
        · intro k hk; exact hRo k (by rw [HRV.out]; exact hk)
        · exact own_move HL.out (fun k hk => Below.heap_setCell _ _ _ _ (fun e => HNE.out k (by rw [HRV.out]; subst e; rfl) hk))
        · intro k hk; exact HNE.out k (by rw [HRV.out]; exact hk)
      · exact hchg.trans (((Chg.refl _ _).drewN _).setCell (p := ⟨g, r.pos.toNat, none⟩) (.inl (hRo g (by rw [HRV.out]; rfl))) _)

/-- What holds of the row while it is made longer. -/
def LongerL (w : World) (base b : Nat) (ok : Nat → Prop) (m0 m1 m2 : Value) (r : Rn) (i gk : Nat) (wr : World) : Prop :=
  ∃ j, j + gk = i + 1 - r.left.length ∧ RunM wr base b (Sn ok w) m0 m1 m2 { r with left := r.left ++ List.replicate j 0 } ∧ Chg ok w wr

set_option maxHeartbeats 2000000 in
theorem run_putL (w : World) (base b : Nat) (ok : Nat → Prop) (m0 m1 m2 : Value) (r : Rn) (v : Int) (h : RunM w base b ok m0 m1 m2 r) (hp0 : r.pos < 0) (hp1 : -1099511627776 ≤ r.pos) (hr : r.left.length ≤ 1099511627776) (hbase : base ≤ w.heap.size) :
    Calls Try.prog 56 #[.pointer (some ⟨b, 0, none⟩), .int .i64 v] w fun e w' => e = .returned (.tuple #[]) ∧ RunM w' base b (Sn ok w) m0 m1 m2 (r.put v) ∧ Chg ok w w' := by
  have h4 : w.cell? ⟨b, 4, none⟩ = some (.int .i64 r.pos) := by obtain ⟨RV, LV, hb, _⟩ := h; exact blk_cell hb 4 _ rfl
  have hd : decide (0 ≤ r.pos) = false := by simpa using hp0
  have H := Lib.hid h
  clear h
  go_enter Try.func56, Try.ntmps56
  go_wp2
  go_loopg [] ((-1 - r.pos).toNat + 1 - r.left.length) (fun gk wr => LongerL w base b ok m0 m1 m2 r (-1 - r.pos).toNat gk wr)
  case atStart => exact ⟨0, by omega, by simpa using H.out.mono (fun k hk => .inl hk), Chg.refl _ _⟩
  case round =>
    obtain ⟨j, hj, hrun, hchg⟩ := hrel
    obtain ⟨R, hRR⟩ : ∃ R, R = r.left ++ List.replicate j 0 := ⟨_, rfl⟩
    rw [← hRR] at hrun
    have hlen : R.length = r.left.length + j := by rw [hRR]; simp
    obtain ⟨LV, RV, hb, hok, hL, hLo, hR, hRo, hne⟩ := hrun
    replace hne : NeRow RV LV := fun k hk hk2 => hne k hk2 hk
    dsimp only at hb hR hRo hL hLo
    have hbr : base ≤ wr.heap.size := Nat.le_trans hbase hchg.size
    have HRR := Lib.hid hRR; clear hRR
    have HLEN := Lib.hid hlen
    have HJ := Lib.hid hj
    obtain ⟨A, c, hRV⟩ := own_slice hR
    have c4 := blk_cell hb 4 _ rfl
    have c5 := blk_cell hb 6 RV rfl
    have f5 := blk_free hb 6
    by_cases hlt : (R.length : Int) ≤ -1 - r.pos
    · have hd2 : decide ((R.length : Int) ≤ -1 - r.pos) = true := by simpa using hlt
      rw [hRV] at c5
      have HB := Lib.hid hb; have HR := Lib.hid hR; have HL := Lib.hid hL; have HRV := Lib.hid hRV; have HNE := Lib.hid hne
      clear hb hR hL hlen hj hRV hne
      go_wp2
      go_quiet (fail)
      have hnb : ¬ (Value.slice A R.length c).ownBlock = some b := by have := HR.out; rw [HRV.out] at this; exact own_not_blk this HB.out (by decide)
      go_wp2_with (at_builtin; refine app_i64 (W := wr.drewN _) base rfl (.tmp 53) (.tmp 54) rfl (.slice A R.length c) R 0 rfl rfl (by have := HR.out; rw [HRV.out] at this; exact own_move this (fun k hk => rfl)) hbr (by omega) ?_; intro g c2 w1 hown hc1 hat; have hb1 := Lib.hid (hc1.blk (k := b) HB.out hnb); have c5b := blk_cell hb1.out 6 RV rfl; have f5b := blk_free hb1.out 6)
      go_roundg (gk - 1)
      case measure => have := HLEN.out; have := HJ.out; omega
      case rel =>
        have hR1 := HR.out; rw [HRV.out] at hR1
        have hcg : Chg (Sn ok w) wr w1 := ⟨hc1.os, hc1.tape, hc1.output, hc1.size, fun k hk hn => hc1.block k hk (fun e => hn (hRo k (by rw [HRV.out]; exact e)))⟩
        have hg : Sn ok w g := hat.elim (fun e => hRo g (by rw [HRV.out]; exact e)) (fun e => .inr (Nat.le_trans hchg.size e))
        have hL1 := own_move (w1 := w1) HL.out (fun k hk => hc1.block k (own_lt HL.out k hk) (fun e => HNE.out k (by rw [HRV.out]; exact e) hk))
        refine ⟨j + 1, by have := HJ.out; have := HLEN.out; omega, ⟨LV, .slice (some ⟨g, 0, none⟩) (R.length + 1) c2, ?_, hok, ?_, hLo, ?_, ?_, ?_⟩, ?_⟩
        · have := blk_set hb1.out 6 (.slice (some ⟨g, 0, none⟩) (R.length + 1) c2)
          simpa using this
        · exact own_set_blk hL1 hb1.out (by decide) 6 _
        · have e : r.left ++ List.replicate (j + 1) 0 = R ++ [0] := by rw [HRR.out, List.replicate_succ']; simp
          dsimp only
          rw [e]
          exact own_set_blk hown hb1.out (by decide) 6 _
        · intro k hk; have : g = k := by simpa [Value.ownBlock] using hk
          exact this ▸ hg
        · intro k hk2 hk
          have : g = k := by simpa [Value.ownBlock] using hk
          subst this
          rcases hat with e | e
          · exact HNE.out g (by rw [HRV.out]; exact e) hk2
          · exact absurd (own_lt HL.out g hk2) (by have : wr.heap.size ≤ g := e; omega)
        · exact hchg.trans (hcg.setCell (.inl (by exact hok)) _)
    · have hd2 : decide ((R.length : Int) ≤ -1 - r.pos) = false := by simpa using hlt
      obtain ⟨g, c', he, hcell⟩ := own_at hR (by omega)
      rw [hRV] at he
      injection he with e1 e2 e3
      subst e1; subst e3
      have hcp := hcell (-1 - r.pos).toNat (by omega)
      rw [hRV] at c5
      have hfz : wr.frozen? ⟨g, (-1 - r.pos).toNat, none⟩ = false := by
        obtain ⟨cells, hcs⟩ := own_typed hR g (by rw [hRV]; rfl)
        exact blk_free hcs _
      have HB := Lib.hid hb; have HR := Lib.hid hR; have HL := Lib.hid hL; have HRV := Lib.hid hRV; have HNE := Lib.hid hne
      clear hb hR hL hlen hj hRV hne hcell f5
      go_wp2
      go_quiet (fail)
      go_wp2
      go_region
      go_wp2
      refine bodyPost_end (results_none rfl _ _ _) rfl ?_
      have hR1 := HR.out; rw [HRV.out] at hR1
      have hgb : g ≠ b := fun e => own_not_blk hR1 HB.out (by decide) (by subst e; rfl)
      have hput : r.put v = { r with left := R.set (-1 - r.pos).toNat v } := by
        unfold Rn.put putL
        rw [if_neg (by omega)]
        have e : R = r.left ++ List.replicate ((-1 - r.pos).toNat + 1 - r.left.length) 0 := by
          rw [HRR.out]; congr 2; have := HJ.out; have := HLEN.out; omega
        rw [e]
      refine ⟨rfl, ?_, ?_⟩
      · rw [hput]
        refine ⟨LV, .slice (some ⟨g, 0, none⟩) R.length c, ?_, hok, ?_, hLo, ?_, ?_, ?_⟩
        · exact (Below.heap_setCell _ _ _ _ (by exact fun e => hgb e.symm)).trans (by have := HB.out; rw [HRV.out] at this; exact this)
        · exact own_move HL.out (fun k hk => Below.heap_setCell _ _ _ _ (fun e => HNE.out k (by rw [HRV.out]; subst e; rfl) hk))
        · have := (World.ownsRow.stored (own_move (w1 := wr.drewN (nq + 1)) hR1 (fun k hk => rfl)) (-1 - r.pos).toNat (.int .i64 v)).1
          simpa [nums, List.map_set] using this
        · intro k hk; exact hRo k (by rw [HRV.out]; exact hk)
        · intro k hk2 hk; exact HNE.out k (by rw [HRV.out]; exact hk) hk2
      · exact hchg.trans (((Chg.refl _ _).drewN _).setCell (p := ⟨g, (-1 - r.pos).toNat, none⟩) (.inl (hRo g (by rw [HRV.out]; rfl))) _)

theorem run_put_any (w : World) (base b : Nat) (ok : Nat → Prop) (m0 m1 m2 : Value) (r : Rn) (v : Int) (h : RunM w base b ok m0 m1 m2 r) (hp0 : -1099511627776 ≤ r.pos) (hp1 : r.pos ≤ 1099511627776) (hr : r.right.length ≤ 1099511627776) (hl : r.left.length ≤ 1099511627776) (hbase : base ≤ w.heap.size) :
    Calls Try.prog 56 #[.pointer (some ⟨b, 0, none⟩), .int .i64 v] w fun e w' => e = .returned (.tuple #[]) ∧ RunM w' base b (Sn ok w) m0 m1 m2 (r.put v) ∧ Chg ok w w' := by
  rcases Int.lt_or_le r.pos 0 with h0 | h0
  · exact run_putL w base b ok m0 m1 m2 r v h h0 hp0 hl hbase
  · exact run_put w base b ok m0 m1 m2 r v h h0 hp1 hr hbase

theorem RunM.steps {w : World} {base b : Nat} {ok : Nat → Prop} {m0 m1 m2 : Value} {r : Rn} (h : RunM w base b ok m0 m1 m2 r) : w.cell? ⟨b, 2, none⟩ = some m2 ∧ w.cell? ⟨b, 3, none⟩ = some (.int .i64 r.state) ∧ w.cell? ⟨b, 4, none⟩ = some (.int .i64 r.pos) ∧ w.cell? ⟨b, 7, none⟩ = some (.int .i64 r.steps) := by
  obtain ⟨RV, LV, hb, _⟩ := h
  exact ⟨blk_cell hb 2 _ rfl, blk_cell hb 3 _ rfl, blk_cell hb 4 _ rfl, blk_cell hb 7 _ rfl⟩

theorem run_Step_stop (w : World) (base b : Nat) (ok : Nat → Prop) (m0 m1 m2 : Value) (r : Rn) (h : RunM w base b ok m0 m1 m2 r) (hs : r.state = -1) :
    Calls Try.prog 38 #[.pointer (some ⟨b, 0, none⟩)] w fun e w' => e = .returned (.bool false) ∧ w = w' := by
  obtain ⟨_, h3, _, _⟩ := h.steps
  rw [hs] at h3
  clear h hs
  go_enter Try.func38, Try.ntmps38
  go_wp2
  go_ret
  exact ⟨rfl, rfl⟩

set_option maxHeartbeats 4000000 in
theorem run_Step (w : World) (base b : Nat) (ok : Nat → Prop) (m0 m1 m2 : Value) (m : Mc) (r : Rn) (h : RunM w base b ok m0 m1 m2 r) (hm : MachC w m0 m1 m2 m) (hg : m.Good)
    (hs0 : 0 ≤ r.state) (hs1 : r.state < m.states) (hx0 : 0 ≤ r.cell r.pos) (hx1 : r.cell r.pos < m.symbols)
    (hp0 : -1099511627776 < r.pos) (hp1 : r.pos < 1099511627776) (hr : r.right.length ≤ 1099511627776) (hl : r.left.length ≤ 1099511627776) (hn : 0 ≤ r.steps ∧ r.steps < 1099511627776) (hbase : base ≤ w.heap.size) :
    Calls Try.prog 38 #[.pointer (some ⟨b, 0, none⟩)] w fun e w' => e = .returned (.bool true) ∧ RunM w' base b (Sn ok w) m0 m1 m2 (r.step m) ∧ Chg ok w w' := by
  obtain ⟨h2, h3, h4, h7⟩ := h.steps
  have hnot : (r.state == -1) = false := by simp; omega
  obtain ⟨ad, A2, c, c2, e2, hc, hrow, hc2, hC⟩ := hm.row r.state hs0 (by rw [hg.len]; exact hs1)
  have hlr := hg.row _ (hg.rowAt hs0 hs1)
  obtain ⟨ad2, eA, k0, k1, k2⟩ := rule_cells hC (r.cell r.pos) hx0 (by rw [hlr]; exact hx1)
  have hrd : (m.rules.getD r.state.toNat []).getD (r.cell r.pos).toNat default = ruleAt m r.state (r.cell r.pos) := rfl
  rw [hrd] at k0 k1 k2
  have hro := hg.ruleOk hs0 hs1 hx0 hx1
  subst eA
  rw [e2] at h2
  have hcell := fun W (hW : RunM W base b ok m0 m1 m2 r) => run_Cell W base b ok m0 m1 m2 r r.pos hW (by omega) (by omega)
  obtain ⟨q, hq⟩ : ∃ q, q = ruleAt m r.state (r.cell r.pos) := ⟨_, rfl⟩
  rw [← hq] at k0 k1 k2 hro
  obtain ⟨x, hx⟩ : ∃ x, x = r.cell r.pos := ⟨_, rfl⟩
  have hlrows : (r.state : Int) < (m.rules.length : Int) := by rw [hg.len]; exact hs1
  have hlrow : x < ((m.rules.getD r.state.toNat []).length : Int) := by rw [hlr, hx]; exact hx1
  generalize hL1 : m.rules.length = n1 at *
  generalize hL2 : (m.rules.getD r.state.toNat []).length = n2 at *
  rw [← hx] at k0 k1 k2 hx0 hx1
  simp only [← hx] at hcell
  have HX := Lib.hid hx; have HQ := Lib.hid hq; have H := Lib.hid h; have HM := Lib.hid hm
  have HCELL := Lib.hid hcell
  clear hx hq h hm hL1 hL2 hcell hrd hlr hC
  go_enter Try.func38, Try.ntmps38
  go_wp2
  go_region_held3 (fun w' => w'.cell? ⟨b, 2, none⟩ = some (.slice (some ad) n1 c) ∧ w'.cell? ⟨b, 3, none⟩ = some (.int .i64 r.state) ∧ w'.cell? ⟨b, 4, none⟩ = some (.int .i64 r.pos) ∧ w'.cell? (ad.add r.state.toNat) = some (.slice (some ad2) n2 c2) ∧ w'.cell? (ad2.add (x.toNat * 3)) = some (.int .i64 q.write) ∧ w'.cell? ⟨(ad2.add (x.toNat * 3)).block, (ad2.add (x.toNat * 3)).off + 1, none⟩ = some (.int .i64 q.move) ∧ w'.cell? ⟨(ad2.add (x.toNat * 3)).block, (ad2.add (x.toNat * 3)).off + 2, none⟩ = some (.int .i64 q.next) ∧ New w w') (first | (refine ⟨?_, ?_, ?_, ?_, ?_, ?_, ?_, ?_⟩ <;> first | ((repeat (first | assumption | exact New.refl _ | refine New.drew ?_ | refine New.alloc ?_ _)); done) | (simp [*, World.cell?_alloc_some, World.cell?_setCell_far]; done))) (first | (go_at_call 39; refine (HCELL.out _ ?_).mono ?_; (refine H.out.new ?_; (repeat (first | assumption | exact New.refl _ | refine New.drew ?_ | refine New.alloc ?_ _))); rintro e w2 ⟨rfl, rfl⟩))
  all_goals
    have hW : New w (w.alloc (.cells #[.int .i64 q.write, .int .i64 q.move, .int .i64 q.next] 84)).drew := ((New.refl w).alloc _).drew
    have hx' : (w.alloc (.cells #[.int .i64 q.write, .int .i64 q.move, .int .i64 q.next] 84)).drew.heap[w.heap.size]? = some (.cells #[.int .i64 q.write, .int .i64 q.move, .int .i64 q.next] 84 (0, 0)) := heap_alloc_new w _
    have HW := Lib.hid hW; have HX' := Lib.hid hx'
    clear hW hx' h2 h3 h4 h7 k0 k1 k2 hrow
    go_wp2_with (go_at_call 56; refine (run_put_any _ base b (fun k => ok k ∧ k < w.heap.size) m0 m1 m2 r q.write (H.out.bound.new HW.out) (by omega) (by omega) hr hl (Nat.le_trans hbase HW.out.size)).mono ?_; rintro e w2 ⟨rfl, hrun2, hchg2⟩; have HR2 := Lib.hid hrun2; have HC2 := Lib.hid hchg2; clear hrun2 hchg2)
    obtain ⟨RV, LV, hb, hok, hR, hRo, hL, hLo, hne⟩ := HR2.out
    rw [Rn.put_state, Rn.put_pos, Rn.put_steps] at hb
    have hxb := HC2.out.blk HX'.out (fun h => absurd h.2 (Nat.lt_irrefl _))
    have c4 := blk_cell hb 4 _ rfl
    have f4 := blk_free hb 4
    have c3 := blk_cell hb 3 _ rfl
    have f3 := blk_free hb 3
    have c7 := blk_cell hb 7 _ rfl
    have f7 := blk_free hb 7
    have x1 := blk_cell hxb 1 _ rfl
    have x2 := blk_cell hxb 2 _ rfl
    have hmv := hro.mv
    have hbw : b < w.heap.size := by obtain ⟨_, _, h0, _⟩ := H.out; exact blk_lt' h0
    clear hb hok hR hRo hL hLo hne hxb
    go_region
    go_wp2
    go_ret
    have e1 : r.step m = { r.put q.write with state := q.next, pos := r.pos + q.move, steps := r.steps + 1 } := by unfold Rn.step; rw [← HQ.out]
    have hsn : ∀ k, Sn (fun k => ok k ∧ k < w.heap.size) (w.alloc (.cells #[.int .i64 q.write, .int .i64 q.move, .int .i64 q.next] 84)).drew k → Sn ok w k := fun k h => h.mono (fun k h => h.1) HW.out.size
    refine ⟨rfl, ?_, ?_⟩
    · rw [e1]
      exact RunM.mono (((HR2.out.drew.set_pos _).set_state _).set_steps _) hsn
    · have hokb : ok b := by obtain ⟨_, _, _, h0, _⟩ := H.out; exact h0
      exact ((((Chg.of_new HW.out ok).trans (HC2.out.mono fun k h => .inl h.1)).drew.setCell (p := ⟨b, 4, none⟩) (.inl hokb) _).setCell (p := ⟨b, 3, none⟩) (.inl hokb) _).setCell (p := ⟨b, 7, none⟩) (.inl hokb) _

end Go.Proofs.Ytgnhlaonckognaa
