/- The program's walk in memory: symbol, write, step walked. Conditions: a right machine; positions within K of C. -/
import Derived.Test.YtgnhlaonckognaaBand
import Derived.Deep.DeepCutAuto
import Derived.Deep.CutBlock
import Derived.BigRegion
namespace Go.Proofs.Ytgnhlaonckognaa
open Go.RowKit Go.Proofs.YtgnhlaonckognaaW.PrintWords
set_option linter.unusedVariables false
set_option linter.unusedSimpArgs false

theorem own_get {w : World} {base : Nat} {e : TypeId} {v : Value} {k : IntKind} {xs : List Int} (h : w.ownsRow base e 1 v xs.length (nums k xs)) (h0 : 0 < xs.length) :
    ∃ g c, v = .slice (some ⟨g, 0, none⟩) xs.length c ∧ ∀ j, j < xs.length → w.cell? ⟨g, j, none⟩ = some (.int k (xs.getD j 0)) := by
  obtain ⟨g, cap, rfl, _, _⟩ := h.form h0
  refine ⟨g, cap, rfl, fun j hj => ?_⟩
  have hq := h.cells (g := g) rfl j (.int k (xs.getD j 0)) (by simp [nums, List.getElem?_eq_getElem hj, List.getD_eq_getElem?_getD])
  rwa [add_plain] at hq
/-- A walk in memory: its block, and its band. -/
def WalkM (w : World) (base bw bb : Nat) (m0 m1 m2 : Value) (k : Wk) : Prop :=
  w.heap[bw]? = some (.cells #[m0, m1, m2, .pointer (some ⟨bb, 0, none⟩), .int .i64 k.state, .int .i64 k.pos, .int .i64 k.low, .int .i64 k.high] 139 (0, 0)) ∧ base ≤ bw ∧ BandM w base bb k.band
theorem WalkM.cells {w : World} {base bw bb : Nat} {m0 m1 m2 : Value} {k : Wk} (h : WalkM w base bw bb m0 m1 m2 k) :
    w.cell? ⟨bw, 2, none⟩ = some m2 ∧ w.cell? ⟨bw, 3, none⟩ = some (.pointer (some ⟨bb, 0, none⟩)) ∧ w.cell? ⟨bw, 4, none⟩ = some (.int .i64 k.state) ∧ w.cell? ⟨bw, 5, none⟩ = some (.int .i64 k.pos) ∧ w.cell? ⟨bw, 6, none⟩ = some (.int .i64 k.low) ∧ w.cell? ⟨bw, 7, none⟩ = some (.int .i64 k.high) :=
  ⟨blk_cell h.1 2 _ rfl, blk_cell h.1 3 _ rfl, blk_cell h.1 4 _ rfl, blk_cell h.1 5 _ rfl, blk_cell h.1 6 _ rfl, blk_cell h.1 7 _ rfl⟩
theorem WalkM.drewN {w : World} {base bw bb : Nat} {m0 m1 m2 : Value} {k : Wk} (h : WalkM w base bw bb m0 m1 m2 k) (n : Nat) : WalkM (w.drewN n) base bw bb m0 m1 m2 k := h
theorem WalkM.new {w w1 : World} {base bw bb : Nat} {m0 m1 m2 : Value} {k : Wk} (h : WalkM w base bw bb m0 m1 m2 k) (hn : New w w1) : WalkM w1 base bw bb m0 m1 m2 k := ⟨hn.blk h.1, h.2.1, h.2.2.new hn⟩
/-- What 'at' leaves of a walk. -/
theorem WalkM.band {w w1 : World} {base bw bb : Nat} {m0 m1 m2 : Value} {k : Wk} (h : WalkM w base bw bb m0 m1 m2 k) (hk : Kt [3, 164] w w1) {b : Band} (hb : BandM w1 base bb b) : WalkM w1 base bw bb m0 m1 m2 { k with band := b } :=
  ⟨hk _ _ _ _ (by decide) h.1, h.2.1, hb⟩

def SymPost (w : World) (x : Int) (e : Ending) (w' : World) : Prop := e = .returned (.int .i64 x) ∧ ∃ n, w' = w.drewN n

set_option maxHeartbeats 1000000 in
/-- 'symbol': the symbol at the head. -/
theorem walk_symbol (w : World) (base bw bb : Nat) (m0 m1 m2 : Value) (k : Wk) (K C B : Int) (h : WalkM w base bw bb m0 m1 m2 k) (hi : k.Inv K C B) (hK : K ≤ 10000000) :
    Calls Try.prog 98 #[.pointer (some ⟨bw, 0, none⟩)] w (SymPost w (k.band.get k.pos)) := by
  obtain ⟨k2, k3, k4, k5, k6, k7⟩ := h.cells
  have hsym := Wk.symbol hi
  by_cases h1 : k.pos < k.low
  · have hd1 : decide (k.pos < k.low) = true := by simpa using h1
    rw [if_pos (.inl h1)] at hsym
    rw [hsym]
    clear hsym h hi
    go_enter Try.func98, Try.ntmps98
    go_wp2
    go_quiet (fail)
    go_wp2
    go_ret
    exact ⟨rfl, _, rfl⟩
  · have hd1 : decide (k.pos < k.low) = false := by simpa using h1
    by_cases h2 : k.high < k.pos
    · have hd2 : decide (k.high < k.pos) = true := by simpa using h2
      rw [if_pos (.inr h2)] at hsym
      rw [hsym]
      clear hsym h hi
      go_enter Try.func98, Try.ntmps98
      go_wp2
      go_quiet (fail)
      go_wp2
      go_ret
      exact ⟨rfl, _, rfl⟩
    · have hd2 : decide (k.high < k.pos) = false := by simpa using h2
      rw [if_neg (by omega)] at hsym
      rw [hsym]
      have hhas := hi.has k.pos (by omega) (by omega)
      have hne : k.band.cells ≠ [] := fun e => by unfold Band.has at hhas; rw [e] at hhas; simp at hhas; omega
      have hbd := (hi.sz hne).bd
      have hp0 := hi.p0; have hp1 := hi.p1
      have hat := fun W (hW : BandM W base bb k.band) => at_idle W base bb k.band k.pos hW hhas (by omega) (by omega) (by omega)
      have HAT := Lib.hid hat; have HM := Lib.hid h.2.2
      obtain ⟨V, hb, hB, hO⟩ := h.2.2
      have hh := hhas
      unfold Band.has at hh
      obtain ⟨g, c, hV, hcell⟩ := own_get hO (by omega)
      subst hV
      have c0 := blk_cell hb 0 _ rfl
      have hc := hcell (k.pos + k.band.zero).toNat (by omega)
      obtain ⟨z, hz⟩ : ∃ z, z = k.band.zero := ⟨_, rfl⟩
      obtain ⟨n, hn⟩ : ∃ n, n = k.band.cells.length := ⟨_, rfl⟩
      obtain ⟨hh0, hh1⟩ := hh
      rw [← hz] at hc hh0 hh1 ⊢
      rw [← hn] at c0 hh1
      generalize k.band.cells.getD (k.pos + z).toNat 0 = vv at hc ⊢
      have HZ := Lib.hid hz
      clear hsym hhas hne hbd hat hb hO hcell hn h hi hz
      go_enter Try.func98, Try.ntmps98
      go_wp2
      go_quiet (fail)
      go_wp2
      obtain ⟨wq, hq⟩ : ∃ wq, wq = w.drewN nq := ⟨_, rfl⟩
      have HQ := Lib.hid hq
      have hMq : BandM wq base bb k.band := by rw [hq]; exact HM.out.drewN _
      have HMq := Lib.hid hMq
      replace k3 : wq.cell? ⟨bw, 3, none⟩ = some (.pointer (some ⟨bb, 0, none⟩)) := by rw [hq]; exact k3
      replace k5 : wq.cell? ⟨bw, 5, none⟩ = some (.int .i64 k.pos) := by rw [hq]; exact k5
      replace c0 : wq.cell? ⟨bb, 0, none⟩ = some (.slice (some ⟨g, 0, none⟩) n c) := by rw [hq]; exact c0
      replace hc : wq.cell? ⟨g, (k.pos + z).toNat, none⟩ = some (.int .i64 vv) := by rw [hq]; exact hc
      rw [← hq]
      clear hq k2 k4 k6 k7 hMq
      rw [← HZ.out] at HAT
      go_quiet ((go_at_call 116; exact Calls.quiet_of (HAT.out _ (HMq.out.drewN _))))
      go_wp2
      go_ret
      exact ⟨rfl, _, by rw [HQ.out, World.drewN_drewN]⟩

def WrPost (w : World) (base bw : Nat) (m0 m1 m2 : Value) (k : Wk) (K C B x : Int) (e : Ending) (w' : World) : Prop :=
  ∃ bb' k', (e = .returned (.bool true) ∨ (e = .returned (.bool false) ∧ k.low ≤ k.high ∧ 1099511627776 < max k.high k.pos)) ∧ WalkM w' base bw bb' m0 m1 m2 k' ∧ k'.Inv K C B ∧ k'.pos = k.pos ∧ k'.state = k.state ∧ (∀ i, k'.band.get i = if i = k.pos then x else k.band.get i) ∧
    Below base w w' ∧ Kt [3, 164, 139] w w'
/-- What holds behind the switch. -/
def SwRel (w : World) (base bw : Nat) (m0 m1 m2 : Value) (k : Wk) (wx : World) : Prop :=
  ∃ bb', WalkM wx base bw bb' m0 m1 m2 k.wide ∧ base ≤ wx.heap.size ∧ Below base w wx ∧ Kt [3, 164, 139] w wx

theorem sw_new {w wc : World} {base bw bb : Nat} {m0 m1 m2 : Value} {k : Wk} (h : WalkM wc base bw bb m0 m1 m2 k) (hlh : ¬ k.low ≤ k.high) (hb : base ≤ wc.heap.size) (hBel : Below base w wc) (hKt : Kt [3, 164, 139] w wc) (n : Nat) :
    SwRel w base bw m0 m1 m2 k (((((wc.drewN n).setCell ⟨bw, 6, none⟩ (.int .i64 k.pos)).setCell ⟨bw, 7, none⟩ (.int .i64 k.pos)).setCell ⟨bw, 3, none⟩ (.pointer (some ⟨wc.heap.size, 0, none⟩))).alloc (.cells #[.slice none 0 0, .int .i64 0] 164)) := by
  obtain ⟨h1, h2, h3⟩ := h
  have e : k.wide = { k with band := ⟨[], 0⟩, low := k.pos, high := k.pos } := by unfold Wk.wide; rw [if_neg hlh]
  have hs1 := blk_set (w := wc.drewN n) h1 6 (.int .i64 k.pos)
  have hs2 := blk_set hs1 7 (.int .i64 k.pos)
  have hs3 := blk_set hs2 3 (.pointer (some ⟨wc.heap.size, 0, none⟩))
  have hsz : ((((wc.drewN n).setCell ⟨bw, 6, none⟩ (.int .i64 k.pos)).setCell ⟨bw, 7, none⟩ (.int .i64 k.pos)).setCell ⟨bw, 3, none⟩ (.pointer (some ⟨wc.heap.size, 0, none⟩))).heap.size = wc.heap.size := by
    simp [World.setCell, World.drewN]
  have hb3 : Below base w ((((wc.drewN n).setCell ⟨bw, 6, none⟩ (.int .i64 k.pos)).setCell ⟨bw, 7, none⟩ (.int .i64 k.pos)).setCell ⟨bw, 3, none⟩ (.pointer (some ⟨wc.heap.size, 0, none⟩))) :=
    (((pw_below_drewN hBel n).setCell (p := ⟨bw, 6, none⟩) h2 _).setCell (p := ⟨bw, 7, none⟩) h2 _).setCell (p := ⟨bw, 3, none⟩) h2 _
  have hk3 : Kt [3, 164, 139] w ((((wc.drewN n).setCell ⟨bw, 6, none⟩ (.int .i64 k.pos)).setCell ⟨bw, 7, none⟩ (.int .i64 k.pos)).setCell ⟨bw, 3, none⟩ (.pointer (some ⟨wc.heap.size, 0, none⟩))) :=
    (((hKt.drewN n).set h1 (by simp) 6 _).set hs1 (by simp) 7 _).set hs2 (by simp) 3 _
  generalize ((((wc.drewN n).setCell ⟨bw, 6, none⟩ (.int .i64 k.pos)).setCell ⟨bw, 7, none⟩ (.int .i64 k.pos)).setCell ⟨bw, 3, none⟩ (.pointer (some ⟨wc.heap.size, 0, none⟩))) = W3 at hs3 hsz hb3 hk3 ⊢
  have hnew : New W3 (W3.alloc (.cells #[.slice none 0 0, .int .i64 0] 164)) := (New.refl _).alloc _
  refine ⟨wc.heap.size, ?_, by have := hnew.size; omega, hb3.alloc (by omega) _, hk3.trans (Kt.of_new hnew)⟩
  rw [e]
  refine ⟨by have := hnew.blk hs3; simpa using this, h2, .slice none 0 0, ?_, hb, own_nil _ _ _ _⟩
  exact heap_alloc_at _ _ _ hsz
theorem sw_old {w wc : World} {base bw bb : Nat} {m0 m1 m2 : Value} {k : Wk} (h : WalkM wc base bw bb m0 m1 m2 k) (hlh : k.low ≤ k.high) (hb : base ≤ wc.heap.size) (hBel : Below base w wc) (hKt : Kt [3, 164, 139] w wc) :
    SwRel w base bw m0 m1 m2 k ((wc.setCell ⟨bw, 6, none⟩ (.int .i64 (min k.low k.pos))).setCell ⟨bw, 7, none⟩ (.int .i64 (max k.high k.pos))) := by
  obtain ⟨h1, h2, h3⟩ := h
  have e : k.wide = { k with low := min k.low k.pos, high := max k.high k.pos } := by unfold Wk.wide; rw [if_pos hlh]
  have hs1 := blk_set h1 6 (.int .i64 (min k.low k.pos))
  have hs2 := blk_set hs1 7 (.int .i64 (max k.high k.pos))
  refine ⟨bb, ?_, by simpa [World.setCell] using hb, (hBel.setCell (p := ⟨bw, 6, none⟩) h2 _).setCell (p := ⟨bw, 7, none⟩) h2 _, (hKt.set h1 (by simp) 6 _).set hs1 (by simp) 7 _⟩
  rw [e]
  exact ⟨by simpa using hs2, h2, (h3.set h1 (by decide) (by decide) 6 _).set hs1 (by decide) (by decide) 7 _⟩

/-- What holds behind the loops. -/
def TrimRel (w : World) (base bw bb : Nat) (m0 m1 m2 : Value) (k1 : Wk) (K C B : Int) (wx : World) : Prop :=
  ∃ k2 : Wk, WalkM wx base bw bb m0 m1 m2 k2 ∧ k2.Inv2 K C B ∧ k2.band = k1.band ∧ k2.pos = k1.pos ∧ k2.state = k1.state ∧ k2.high ≤ k1.high ∧ Below base w wx ∧ Kt [3, 164, 139] w wx
def TrimG (w : World) (base bw bb : Nat) (m0 m1 m2 : Value) (k1 : Wk) (K C B : Int) (gk : Nat) (wx : World) : Prop :=
  ∃ k2 : Wk, WalkM wx base bw bb m0 m1 m2 k2 ∧ k2.Inv2 K C B ∧ k2.band = k1.band ∧ k2.pos = k1.pos ∧ k2.state = k1.state ∧ k2.high ≤ k1.high ∧ Below base w wx ∧ Kt [3, 164, 139] w wx ∧ gk = (k2.high + 1 - k2.low).toNat
theorem TrimG.rel {w : World} {base bw bb : Nat} {m0 m1 m2 : Value} {k1 : Wk} {K C B : Int} {gk : Nat} {wx : World} (h : TrimG w base bw bb m0 m1 m2 k1 K C B gk wx) : TrimRel w base bw bb m0 m1 m2 k1 K C B wx := by
  obtain ⟨k2, h1, h2, h3, h4, h5, h6, h7, h8, _⟩ := h
  exact ⟨k2, h1, h2, h3, h4, h5, h6, h7, h8⟩
theorem TrimRel.drewN {w : World} {base bw bb : Nat} {m0 m1 m2 : Value} {k1 : Wk} {K C B : Int} {wx : World} (h : TrimRel w base bw bb m0 m1 m2 k1 K C B wx) (n : Nat) : TrimRel w base bw bb m0 m1 m2 k1 K C B (wx.drewN n) := by
  obtain ⟨k2, h1, h2, h3, h4, h5, h6, h7, h8⟩ := h
  exact ⟨k2, h1.drewN n, h2, h3, h4, h5, h6, pw_below_drewN h7 n, h8.drewN n⟩
/-- A store into the walk's block. -/
theorem WalkM.set {w : World} {base bw bb : Nat} {m0 m1 m2 : Value} {k : Wk} (h : WalkM w base bw bb m0 m1 m2 k) (i : Nat) (u : Value) (k' : Wk) (hk : k'.band = k.band)
    (hc : (#[m0, m1, m2, .pointer (some ⟨bb, 0, none⟩), .int .i64 k.state, .int .i64 k.pos, .int .i64 k.low, .int .i64 k.high] : Array Value).setIfInBounds i u = #[m0, m1, m2, .pointer (some ⟨bb, 0, none⟩), .int .i64 k'.state, .int .i64 k'.pos, .int .i64 k'.low, .int .i64 k'.high]) :
    WalkM (w.setCell ⟨bw, i, none⟩ u) base bw bb m0 m1 m2 k' :=
  ⟨by rw [← hc]; exact blk_set h.1 i u, h.2.1, by rw [hk]; exact h.2.2.set h.1 (by decide) (by decide) i u⟩

theorem walk_put {w2 : World} {base bw bb g c : Nat} {m0 m1 m2 : Value} {k : Wk} {b2 : Band} {p x z : Int} (h : WalkM w2 base bw bb m0 m1 m2 { k with band := b2 })
    (hb : w2.heap[bb]? = some (.cells #[.slice (some ⟨g, 0, none⟩) b2.cells.length c, .int .i64 b2.zero] 164 (0, 0))) (hO : w2.ownsRow base 3 1 (.slice (some ⟨g, 0, none⟩) b2.cells.length c) b2.cells.length (nums .i64 b2.cells)) (hz : z = b2.zero) :
    WalkM (w2.setCell ⟨g, (p + z).toNat, none⟩ (.int .i64 x)) base bw bb m0 m1 m2 { k with band := setB b2 p x } := by
  have hgw : ¬ g = bw := fun e => own_not_blk hO h.1 (by decide) (by subst e; rfl)
  have hgb : ¬ g = bb := fun e => own_not_blk hO hb (by decide) (by subst e; rfl)
  refine ⟨(Below.heap_setCell _ _ _ _ (by exact fun e => hgw e.symm)).trans h.1, h.2.1, .slice (some ⟨g, 0, none⟩) b2.cells.length c, (Below.heap_setCell _ _ _ _ (by exact fun e => hgb e.symm)).trans hb, h.2.2.choose_spec.2.1, ?_⟩
  have := (World.ownsRow.stored hO (p + z).toNat (.int .i64 x)).1
  unfold setB
  rw [hz] at this ⊢
  simpa [nums, List.map_set] using this
theorem kt_put {w w2 : World} {base g n c : Nat} {N : Nat} {xs : List Value} {i : Nat} {u : Value} (hk : Kt [3, 164, 139] w w2) (hO : w2.ownsRow base 3 1 (.slice (some ⟨g, 0, none⟩) n c) N xs) :
    Kt [3, 164, 139] w (w2.setCell ⟨g, i, none⟩ u) := by
  obtain ⟨cells, hcs⟩ := own_typed hO g rfl
  exact hk.set hcs (by simp) i u

theorem SwRel.drew {w wx : World} {base bw : Nat} {m0 m1 m2 : Value} {k : Wk} (h : SwRel w base bw m0 m1 m2 k wx) : SwRel w base bw m0 m1 m2 k wx.drew := by
  obtain ⟨bb', h1, h2, h3, h4⟩ := h
  exact ⟨bb', h1, h2, below_drew h3, h4.drew⟩

set_option maxHeartbeats 16000000 in
set_option maxRecDepth 100000 in
theorem walk_write (w : World) (base bw bb : Nat) (m0 m1 m2 : Value) (k : Wk) (K C B x : Int) (h : WalkM w base bw bb m0 m1 m2 k) (hi : k.Inv K C B) (hbase : base ≤ w.heap.size) (hK : K ≤ 10000000) (hB0 : 0 ≤ B) (hBK : B + 16 ≤ K) (hC0 : -1100000000000 ≤ C - B) (hC1 : C + B ≤ 1100000000000) (hidle : ¬ k.idle x) (hover : ¬ k.over) :
    Calls Try.prog 99 #[.pointer (some ⟨bw, 0, none⟩), .int .i64 x] w (WrPost w base bw m0 m1 m2 k K C B x) := by
  obtain ⟨k2, k3, k4, k5, k6, k7⟩ := h.cells
  obtain ⟨ins, hins⟩ : ∃ ins : Bool, ins = (decide (k.low ≤ k.pos) && decide (k.pos ≤ k.high)) := ⟨_, rfl⟩
  have H := Lib.hid h; have HI := Lib.hid hi; have HINS := Lib.hid hins; have HID := Lib.hid hidle; have HOV := Lib.hid hover
  clear h hi hins hidle hover
  go_enter Try.func99, Try.ntmps99
  go_upto_region 1 with fail
  go_cut [5] (fun s5 wx => s5 = .bool ins ∧ ∃ n, wx = w.drewN n)
  case first =>
    by_cases hl : k.low ≤ k.pos
    · have hd1 : decide (k.low ≤ k.pos) = true := by simpa using hl
      by_cases hh : k.pos ≤ k.high
      · have hd2 : decide (k.pos ≤ k.high) = true := by simpa using hh
        go_quiet (fail)
        go_wp2_with fail
        go_meet
        exact ⟨by rw [HINS.out, hd1, hd2]; rfl, _, rfl⟩
      · have hd2 : decide (k.pos ≤ k.high) = false := by simpa using hh
        go_quiet (fail)
        go_wp2_with fail
        go_meet
        exact ⟨by rw [HINS.out, hd1, hd2]; rfl, _, rfl⟩
    · have hd1 : decide (k.low ≤ k.pos) = false := by simpa using hl
      go_quiet (fail)
      go_wp2_with fail
      go_meet
      exact ⟨by rw [HINS.out, hd1]; rfl, _, rfl⟩
  case rest =>
    obtain ⟨rfl, n, hwc⟩ := hcut
    have hW : WalkM wc base bw bb m0 m1 m2 k := by rw [hwc]; exact H.out.drewN n
    have hBel : Below base w wc := by rw [hwc]; exact pw_below_drewN (Below.refl _ _) _
    have hKt : Kt [3, 164, 139] w wc := by rw [hwc]; exact (Kt.refl _ _).drewN _
    have HW := Lib.hid hW; have HBel := Lib.hid hBel; have HKt := Lib.hid hKt
    have hbwc : base ≤ wc.heap.size := Nat.le_trans hbase hBel.size
    clear k2 k3 k4 k5 k6 k7 hW hBel hKt hwc
    go_upto_block 0 with fail
    go_cut [] (fun wx => SwRel w base bw m0 m1 m2 k wx)
    case first =>
      obtain ⟨k2, k3, k4, k5, k6, k7⟩ := HW.out.cells
      have hbw := bbound HW.out.1
      have f3 := blk_free HW.out.1 3
      have f6 := blk_free HW.out.1 6
      have f7 := blk_free HW.out.1 7
      by_cases hlh : k.low ≤ k.high
      · have hov : ¬ (100000 ≤ max k.high k.pos - min k.low k.pos) := fun h' => HOV.out ⟨hlh, h'⟩
        by_cases c1 : k.pos < k.low
        · as_aux_lemma =>
            have hx : x ≠ 0 := fun e => HID.out ⟨e, by omega⟩
            have hxb : (x == 0) = false := by simpa using hx
            have hov2 : k.high - k.pos < 100000 := by omega
            have hmm : min k.low k.pos = k.pos ∧ max k.high k.pos = k.high := by omega
            have HMM := Lib.hid hmm
            clear hov hmm hx
            go_wp2
            go_quiet (fail)
            obtain ⟨nqa, rfl⟩ : ∃ m, m = nq := ⟨nq, rfl⟩
            go_wp2
            go_quiet (fail)
            go_wp2
            obtain ⟨wq, hq⟩ : ∃ wq, wq = (wc.drewN nqa).drewN nq := ⟨_, rfl⟩
            have hWq : WalkM wq base bw bb m0 m1 m2 k := by rw [hq]; exact HW.out
            have hBq : Below base w wq := by rw [hq]; exact pw_below_drewN (pw_below_drewN HBel.out _) _
            have hKq : Kt [3, 164, 139] w wq := by rw [hq]; exact (HKt.out.drewN _).drewN _
            have hbq : base ≤ wq.heap.size := by rw [hq]; exact hbwc
            rw [← hq]
            have HWq := Lib.hid hWq; have HBq := Lib.hid hBq; have HKq := Lib.hid hKq
            clear hq hWq hBq hKq k2 k3 k4 k5 k6 k7 f3 f6 f7
            have k5 := HWq.out.cells.2.2.2.1
            have k6 := HWq.out.cells.2.2.2.2.1
            have k7 := HWq.out.cells.2.2.2.2.2
            have f6 := blk_free HWq.out.1 6
            have f7 := blk_free HWq.out.1 7
            go_region
            go_wp2
            go_meet
            have := sw_old HWq.out hlh hbq HBq.out HKq.out
            rw [HMM.out.1, HMM.out.2] at this
            exact this.drew
        · by_cases c2 : k.high < k.pos
          · as_aux_lemma =>
              have hx : x ≠ 0 := fun e => HID.out ⟨e, by omega⟩
              have hxb : (x == 0) = false := by simpa using hx
              have hov2 : k.pos - k.low < 100000 := by omega
              have hmm : min k.low k.pos = k.low ∧ max k.high k.pos = k.pos := by omega
              have HMM := Lib.hid hmm
              clear hov hmm hx
              go_wp2
              go_quiet (fail)
              obtain ⟨nqa, rfl⟩ : ∃ m, m = nq := ⟨nq, rfl⟩
              go_wp2
              go_quiet (fail)
              go_wp2
              obtain ⟨wq, hq⟩ : ∃ wq, wq = (wc.drewN nqa).drewN nq := ⟨_, rfl⟩
              have hWq : WalkM wq base bw bb m0 m1 m2 k := by rw [hq]; exact HW.out
              have hBq : Below base w wq := by rw [hq]; exact pw_below_drewN (pw_below_drewN HBel.out _) _
              have hKq : Kt [3, 164, 139] w wq := by rw [hq]; exact (HKt.out.drewN _).drewN _
              have hbq : base ≤ wq.heap.size := by rw [hq]; exact hbwc
              rw [← hq]
              have HWq := Lib.hid hWq; have HBq := Lib.hid hBq; have HKq := Lib.hid hKq
              clear hq hWq hBq hKq k2 k3 k4 k5 k6 k7 f3 f6 f7
              have k5 := HWq.out.cells.2.2.2.1
              have k6 := HWq.out.cells.2.2.2.2.1
              have k7 := HWq.out.cells.2.2.2.2.2
              have f6 := blk_free HWq.out.1 6
              have f7 := blk_free HWq.out.1 7
              go_region
              go_wp2
              go_meet
              have := sw_old HWq.out hlh hbq HBq.out HKq.out
              rw [HMM.out.1, HMM.out.2] at this
              exact this.drew
          · as_aux_lemma =>
              have hins : ins = true := by rw [HINS.out]; simp; omega
              subst hins
              have hov2 : k.high - k.low < 100000 := by omega
              have hmm : min k.low k.pos = k.low ∧ max k.high k.pos = k.high := by omega
              have HMM := Lib.hid hmm
              clear hov hmm
              go_upto_region 3 with fail
              go_cut [53] (fun s wx => s = .bool false ∧ wx = wc)
              case first =>
                by_cases hx : (x == 0) = true
                · go_wp2
                  go_meet
                  exact ⟨rfl, rfl⟩
                · have hxb : (x == 0) = false := by simpa using hx
                  clear hx
                  go_wp2
                  go_meet
                  exact ⟨rfl, rfl⟩
              case rest =>
                obtain ⟨rfl, hwc2⟩ := hcut
                subst hwc2
                go_wp2
                go_quiet (fail)
                obtain ⟨nqa, rfl⟩ : ∃ m, m = nq := ⟨nq, rfl⟩
                go_wp2
                go_quiet (fail)
                go_wp2
                obtain ⟨wq, hq⟩ : ∃ wq, wq = (wc.drewN nqa).drewN nq := ⟨_, rfl⟩
                have hWq : WalkM wq base bw bb m0 m1 m2 k := by rw [hq]; exact HW.out
                have hBq : Below base w wq := by rw [hq]; exact pw_below_drewN (pw_below_drewN HBel.out _) _
                have hKq : Kt [3, 164, 139] w wq := by rw [hq]; exact (HKt.out.drewN _).drewN _
                have hbq : base ≤ wq.heap.size := by rw [hq]; exact hbwc
                rw [← hq]
                have HWq := Lib.hid hWq; have HBq := Lib.hid hBq; have HKq := Lib.hid hKq
                clear hq hWq hBq hKq k2 k3 k4 k5 k6 k7 f3 f6 f7
                have k5 := HWq.out.cells.2.2.2.1
                have k6 := HWq.out.cells.2.2.2.2.1
                have k7 := HWq.out.cells.2.2.2.2.2
                have f6 := blk_free HWq.out.1 6
                have f7 := blk_free HWq.out.1 7
                go_region
                go_wp2
                go_meet
                have := sw_old HWq.out hlh hbq HBq.out HKq.out
                rw [HMM.out.1, HMM.out.2] at this
                exact this.drew
      · as_aux_lemma =>
          have hx : x ≠ 0 := fun e => HID.out ⟨e, by omega⟩
          have hxb : (x == 0) = false := by simpa using hx
          have hd : decide (k.high < k.low) = true := by simp; omega
          go_wp2
          go_quiet (fail)
          go_wp2
          go_region
          go_wp2
          go_meet
          exact sw_new HW.out (by omega) hbwc HBel.out HKt.out _
    case rest =>
      obtain ⟨bb2, hW2, hb2, hBel2, hKt2⟩ := hcut
      have hnear := HI.out.near HOV.out
      have hsz : k.wide.band.cells ≠ [] → k.wide.band.Sz K C := by
        unfold Wk.wide
        split
        · exact HI.out.sz
        · intro h'; exact absurd rfl h'
      have hat := fun W (hW : BandM W base bb2 k.wide.band) (hbW : base ≤ W.heap.size) => at_any W base bb2 k.wide.band k.pos K C hW hbW hsz (by omega) (by omega) (by omega) (by omega) (by omega) hK
      have hpw := k.wide_pos
      have HAT := Lib.hid hat; have HPW := Lib.hid hpw; have HW2 := Lib.hid hW2; have HBel2 := Lib.hid hBel2; have HKt2 := Lib.hid hKt2
      have q3 := hW2.cells.2.1
      have q5 := hW2.cells.2.2.2.1
      rw [hpw] at q5
      clear hat hpw hsz hW2 hBel2 hKt2
      go_wp2
      go_still_tail 8, (by kernel_rfl)
      change wpList _ _ _ _ _ wc.drew
      go_wp2_with fail
      go_at_call 116
      refine (HAT.out wc.drew HW2.out.2.2 hb2).mono ?_
      rintro e w2 ⟨b2, rfl, hat2, hM2, hB2, hK2⟩
      have HA2 := Lib.hid hat2; have HM2 := Lib.hid hM2; have HB2 := Lib.hid hB2; have HK2 := Lib.hid hK2
      clear hat2 hM2 hB2 hK2
      have hW3 : WalkM w2 base bw bb2 m0 m1 m2 { k.wide with band := b2 } := WalkM.band HW2.out HK2.out HM2.out
      have HW3 := Lib.hid hW3
      clear q3 q5
      have q3 := hW3.cells.2.1
      have hh := HA2.out.at'
      unfold Band.has at hh
      obtain ⟨hh0, hh1⟩ := hh
      obtain ⟨V, hb, hB, hO⟩ := hW3.2.2
      obtain ⟨g, c, hV, hcell⟩ := own_get hO (show 0 < b2.cells.length by omega)
      subst hV
      have c0 := blk_cell hb 0 _ rfl
      have hc := hcell (k.pos + b2.zero).toNat (show (k.pos + b2.zero).toNat < b2.cells.length by omega)
      have hfz : w2.frozen? ⟨g, (k.pos + b2.zero).toNat, none⟩ = false := by
        obtain ⟨cells, hcs⟩ := own_typed hO g rfl
        exact blk_free hcs _
      obtain ⟨z, hz⟩ : ∃ z, z = b2.zero := ⟨_, rfl⟩
      obtain ⟨n2, hn2⟩ : ∃ n, n = b2.cells.length := ⟨_, rfl⟩
      dsimp only at c0 hc
      rw [← hz] at hc hh0 hh1 hfz
      rw [← hz]
      rw [← hn2] at c0 hh1
      generalize b2.cells.getD (k.pos + z).toNat 0 = vv at hc
      have HO := Lib.hid hO; have HBB := Lib.hid hb; have HZ := Lib.hid hz; have HN2 := Lib.hid hn2
      clear hW3 hb hO hcell hz hn2
      go_upto_block 1 with fail
      have htouch := HI.out.touch HOV.out HA2.out x
      have hbel3 : Below base w w2 := HBel2.out.drew.trans HB2.out
      have hkt3 : Kt [3, 164, 139] w w2 := HKt2.out.drew.trans (HK2.out.mono (by simp))
      have hT : TrimRel w base bw bb2 m0 m1 m2 { k.wide with band := setB b2 k.pos x } K C B (w2.setCell ⟨g, (k.pos + z).toNat, none⟩ (.int .i64 x)) := by
        refine ⟨{ k.wide with band := setB b2 k.pos x }, ?_, htouch.1, rfl, rfl, rfl, Int.le_refl _, ?_, ?_⟩
        · exact walk_put HW3.out HBB.out HO.out HZ.out
        · exact hbel3.setCell (own_base HO.out g rfl) _
        · exact kt_put hkt3 HO.out
      obtain ⟨k1, hk1⟩ : ∃ k1 : Wk, k1 = { k.wide with band := setB b2 k.pos x } := ⟨_, rfl⟩
      obtain ⟨w3, hw3⟩ : ∃ w3, w3 = w2.setCell ⟨g, (k.pos + z).toNat, none⟩ (.int .i64 x) := ⟨_, rfl⟩
      rw [← hk1, ← hw3] at hT
      rw [← hw3]
      have HT := Lib.hid hT; have HK1 := Lib.hid hk1; have HTC := Lib.hid htouch.2
      clear hT hk1 hw3 htouch hbel3 hkt3 c0 hc hfz HO HBB HZ HN2 HW3 HA2 HM2 HB2 HK2 HAT HPW HW2 HBel2 HKt2 q3 hh0 hh1
      go_cut [] (fun wx => TrimRel w base bw bb2 m0 m1 m2 k1 K C B wx)
      case first =>
        as_aux_lemma =>
          obtain ⟨k20, hW20, hI20, hb20, hp20, hs20, hh20, hBel20, hKt20⟩ := HT.out
          have HG := Lib.hid (show TrimG w base bw bb2 m0 m1 m2 k1 K C B (k20.high + 1 - k20.low).toNat w3 from ⟨k20, hW20, hI20, hb20, hp20, hs20, hh20, hBel20, hKt20, rfl⟩)
          obtain ⟨g0, hg0⟩ : ∃ g, g = (k20.high + 1 - k20.low).toNat := ⟨_, rfl⟩
          rw [← hg0] at HG
          clear hW20 hI20 hb20 hp20 hs20 hh20 hBel20 hKt20 hg0
          go_wp2
          go_loopg [] g0 (fun (gk : Nat) (wr : World) => TrimG w base bw bb2 m0 m1 m2 k1 K C B gk wr)
          case atStart => exact HG.out
          case round =>
            have HG2 := Lib.hid hrel
            obtain ⟨k2, hW2, hI2, hb2, hp2, hs2, hh2, hBel2, hKt2, hgk2⟩ := hrel
            have HW2 := Lib.hid hW2; have HI2 := Lib.hid hI2; have HBd2 := Lib.hid hb2; have HP2 := Lib.hid hp2; have HS2 := Lib.hid hs2; have HH2 := Lib.hid hh2; have HBel2 := Lib.hid hBel2; have HKt2 := Lib.hid hKt2; have HGK2 := Lib.hid hgk2
            have il0 := hI2.l0; have il1 := hI2.l1; have ih0 := hI2.h0; have ih1 := hI2.h1
            obtain ⟨q2, q3, q4, q5, q6, q7⟩ := hW2.cells
            clear hW2 hI2 hb2 hp2 hs2 hh2 hBel2 hKt2 hgk2 q2 q4 q5
            by_cases hle : k2.low ≤ k2.high
            · have hd : decide (k2.low ≤ k2.high) = true := by simpa using hle
              have hhas := HI2.out.has k2.low (by omega) (by omega)
              have hbd := HI2.out.sz.bd
              have hat := fun W (hW : BandM W base bb2 k2.band) => at_idle W base bb2 k2.band k2.low hW hhas (by omega) (by omega) (by omega)
              have HAT := Lib.hid hat; have HHAS := Lib.hid hhas
              clear hat hhas hbd
              go_wp2
              go_quiet (fail)
              go_wp2
              obtain ⟨wq, hq⟩ : ∃ wq, wq = wr.drewN nq := ⟨_, rfl⟩
              have hWq : WalkM wq base bw bb2 m0 m1 m2 k2 := by rw [hq]; exact HW2.out.drewN _
              have hBq : Below base w wq := by rw [hq]; exact pw_below_drewN HBel2.out _
              have hKq : Kt [3, 164, 139] w wq := by rw [hq]; exact HKt2.out.drewN _
              rw [← hq]
              have HWq := Lib.hid hWq; have HBq := Lib.hid hBq; have HKq := Lib.hid hKq
              clear hq hWq hBq hKq q3 q6 q7
              have q3 := HWq.out.cells.2.1
              have q6 := HWq.out.cells.2.2.2.2.1
              have q7 := HWq.out.cells.2.2.2.2.2
              go_still_tail 8, (by kernel_rfl)
              change wpList _ _ _ _ _ wq.drew
              go_wp2_with fail
              go_at_call 116
              refine (HAT.out wq.drew HWq.out.2.2).mono ?_
              rintro e w2 ⟨rfl, n2, hw2⟩
              have HW3 := Lib.hid hw2
              clear hw2
              have hWq2 : WalkM w2 base bw bb2 m0 m1 m2 k2 := by rw [HW3.out]; exact HWq.out
              have hBq2 : Below base w w2 := by rw [HW3.out]; exact pw_below_drewN (below_drew HBq.out) _
              have hKq2 : Kt [3, 164, 139] w w2 := by rw [HW3.out]; exact (HKq.out.drew).drewN _
              have HWq2 := Lib.hid hWq2; have HBq2 := Lib.hid hBq2; have HKq2 := Lib.hid hKq2
              clear hWq2 hBq2 hKq2 q3 q6 q7
              have q3 := HWq2.out.cells.2.1
              have q6 := HWq2.out.cells.2.2.2.2.1
              have q7 := HWq2.out.cells.2.2.2.2.2
              have f6 := blk_free HWq2.out.1 6
              have f7 := blk_free HWq2.out.1 7
              obtain ⟨V, hb, hB, hO⟩ := HWq2.out.2.2
              have hh := HHAS.out
              unfold Band.has at hh
              obtain ⟨g, c, hV, hcell⟩ := own_get hO (by omega)
              subst hV
              have c0 := blk_cell hb 0 _ rfl
              have hc := hcell (k2.low + k2.band.zero).toNat (by omega)
              have hget : k2.band.get k2.low = k2.band.cells.getD (k2.low + k2.band.zero).toNat 0 := by unfold Band.get; rw [if_pos hh.1]
              obtain ⟨z, hz⟩ : ∃ z, z = k2.band.zero := ⟨_, rfl⟩
              obtain ⟨n, hn⟩ : ∃ n, n = k2.band.cells.length := ⟨_, rfl⟩
              obtain ⟨hh0, hh1⟩ := hh
              rw [← hz] at hc hh0 hh1 hget
              rw [← hz]
              rw [← hn] at c0 hh1
              generalize k2.band.cells.getD (k2.low + z).toNat 0 = vv at hc hget
              have HGET := Lib.hid hget
              clear hb hO hcell hn hz hget
              by_cases hv : vv = 0
              · subst hv
                go_wp2
                go_roundg ((k2.high + 1 - k2.low - 1).toNat)
                case measure => have := HGK2.out; omega
                case rel =>
                  refine ⟨{ k2 with low := k2.low + 1 }, HWq2.out.set 6 _ _ rfl rfl, HI2.out.low hC0 hC1 hle HGET.out, HBd2.out, HP2.out, HS2.out, ?_, HBq2.out.setCell HWq2.out.2.1 _, HKq2.out.set HWq2.out.1 (by simp) 6 _, ?_⟩
                  · have := HH2.out; show k2.high ≤ k1.high; omega
                  · show _ = (k2.high + 1 - (k2.low + 1)).toNat; omega
              · have hvb : (vv == 0) = false := by simpa using hv
                go_wp2
                go_meet
                exact ⟨k2, HWq2.out, HI2.out, HBd2.out, HP2.out, HS2.out, HH2.out, HBq2.out, HKq2.out⟩
            · have hd : decide (k2.low ≤ k2.high) = false := by simpa using hle
              go_wp2
              go_quiet (fail)
              go_wp2
              go_meet
              exact HG2.out.rel.drewN _
      case rest =>
        clear HT
        obtain HT := Lib.hid hcut
        clear hcut
        go_upto_block 3 with fail
        go_cut [] (fun wx => TrimRel w base bw bb2 m0 m1 m2 k1 K C B wx)
        case first =>
          as_aux_lemma =>
            obtain ⟨k20, hW20, hI20, hb20, hp20, hs20, hh20, hBel20, hKt20⟩ := HT.out
            have HG := Lib.hid (show TrimG w base bw bb2 m0 m1 m2 k1 K C B (k20.high + 1 - k20.low).toNat wc from ⟨k20, hW20, hI20, hb20, hp20, hs20, hh20, hBel20, hKt20, rfl⟩)
            obtain ⟨g0, hg0⟩ : ∃ g, g = (k20.high + 1 - k20.low).toNat := ⟨_, rfl⟩
            rw [← hg0] at HG
            clear hW20 hI20 hb20 hp20 hs20 hh20 hBel20 hKt20 hg0
            go_wp2
            go_loopg [] g0 (fun (gk : Nat) (wr : World) => TrimG w base bw bb2 m0 m1 m2 k1 K C B gk wr)
            case atStart => exact HG.out
            case round =>
              have HG2 := Lib.hid hrel
              obtain ⟨k2, hW2, hI2, hb2, hp2, hs2, hh2, hBel2, hKt2, hgk2⟩ := hrel
              have HW2 := Lib.hid hW2; have HI2 := Lib.hid hI2; have HBd2 := Lib.hid hb2; have HP2 := Lib.hid hp2; have HS2 := Lib.hid hs2; have HH2 := Lib.hid hh2; have HBel2 := Lib.hid hBel2; have HKt2 := Lib.hid hKt2; have HGK2 := Lib.hid hgk2
              have il0 := hI2.l0; have il1 := hI2.l1; have ih0 := hI2.h0; have ih1 := hI2.h1
              obtain ⟨q2, q3, q4, q5, q6, q7⟩ := hW2.cells
              clear hW2 hI2 hb2 hp2 hs2 hh2 hBel2 hKt2 hgk2 q2 q4 q5
              by_cases hle : k2.low ≤ k2.high
              · have hd : decide (k2.low ≤ k2.high) = true := by simpa using hle
                have hhas := HI2.out.has k2.high (by omega) (by omega)
                have hbd := HI2.out.sz.bd
                have hat := fun W (hW : BandM W base bb2 k2.band) => at_idle W base bb2 k2.band k2.high hW hhas (by omega) (by omega) (by omega)
                have HAT := Lib.hid hat; have HHAS := Lib.hid hhas
                clear hat hhas hbd
                go_wp2
                go_quiet (fail)
                go_wp2
                obtain ⟨wq, hq⟩ : ∃ wq, wq = wr.drewN nq := ⟨_, rfl⟩
                have hWq : WalkM wq base bw bb2 m0 m1 m2 k2 := by rw [hq]; exact HW2.out.drewN _
                have hBq : Below base w wq := by rw [hq]; exact pw_below_drewN HBel2.out _
                have hKq : Kt [3, 164, 139] w wq := by rw [hq]; exact HKt2.out.drewN _
                rw [← hq]
                have HWq := Lib.hid hWq; have HBq := Lib.hid hBq; have HKq := Lib.hid hKq
                clear hq hWq hBq hKq q3 q6 q7
                have q3 := HWq.out.cells.2.1
                have q6 := HWq.out.cells.2.2.2.2.1
                have q7 := HWq.out.cells.2.2.2.2.2
                go_still_tail 8, (by kernel_rfl)
                change wpList _ _ _ _ _ wq.drew
                go_wp2_with fail
                go_at_call 116
                refine (HAT.out wq.drew HWq.out.2.2).mono ?_
                rintro e w2 ⟨rfl, n2, hw2⟩
                have HW3 := Lib.hid hw2
                clear hw2
                have hWq2 : WalkM w2 base bw bb2 m0 m1 m2 k2 := by rw [HW3.out]; exact HWq.out
                have hBq2 : Below base w w2 := by rw [HW3.out]; exact pw_below_drewN (below_drew HBq.out) _
                have hKq2 : Kt [3, 164, 139] w w2 := by rw [HW3.out]; exact (HKq.out.drew).drewN _
                have HWq2 := Lib.hid hWq2; have HBq2 := Lib.hid hBq2; have HKq2 := Lib.hid hKq2
                clear hWq2 hBq2 hKq2 q3 q6 q7
                have q3 := HWq2.out.cells.2.1
                have q6 := HWq2.out.cells.2.2.2.2.1
                have q7 := HWq2.out.cells.2.2.2.2.2
                have f6 := blk_free HWq2.out.1 6
                have f7 := blk_free HWq2.out.1 7
                obtain ⟨V, hb, hB, hO⟩ := HWq2.out.2.2
                have hh := HHAS.out
                unfold Band.has at hh
                obtain ⟨g, c, hV, hcell⟩ := own_get hO (by omega)
                subst hV
                have c0 := blk_cell hb 0 _ rfl
                have hc := hcell (k2.high + k2.band.zero).toNat (by omega)
                have hget : k2.band.get k2.high = k2.band.cells.getD (k2.high + k2.band.zero).toNat 0 := by unfold Band.get; rw [if_pos hh.1]
                obtain ⟨z, hz⟩ : ∃ z, z = k2.band.zero := ⟨_, rfl⟩
                obtain ⟨n, hn⟩ : ∃ n, n = k2.band.cells.length := ⟨_, rfl⟩
                obtain ⟨hh0, hh1⟩ := hh
                rw [← hz] at hc hh0 hh1 hget
                rw [← hz]
                rw [← hn] at c0 hh1
                generalize k2.band.cells.getD (k2.high + z).toNat 0 = vv at hc hget
                have HGET := Lib.hid hget
                clear hb hO hcell hn hz hget
                by_cases hv : vv = 0
                · subst hv
                  go_wp2
                  go_roundg ((k2.high + 1 - k2.low - 1).toNat)
                  case measure => have := HGK2.out; omega
                  case rel =>
                    refine ⟨{ k2 with high := k2.high - 1 }, HWq2.out.set 7 _ _ rfl rfl, HI2.out.high hC0 hC1 hle HGET.out, HBd2.out, HP2.out, HS2.out, ?_, HBq2.out.setCell HWq2.out.2.1 _, HKq2.out.set HWq2.out.1 (by simp) 7 _, ?_⟩
                    · have := HH2.out; show k2.high - 1 ≤ k1.high; omega
                    · show _ = (k2.high - 1 + 1 - k2.low).toNat; omega
                · have hvb : (vv == 0) = false := by simpa using hv
                  go_wp2
                  go_meet
                  exact ⟨k2, HWq2.out, HI2.out, HBd2.out, HP2.out, HS2.out, HH2.out, HBq2.out, HKq2.out⟩
              · have hd : decide (k2.low ≤ k2.high) = false := by simpa using hle
                go_wp2
                go_quiet (fail)
                go_wp2
                go_meet
                exact HG2.out.rel.drewN _
        case rest =>
          clear HT
          obtain ⟨k2, hW2, hI2, hb2', hp2, hs2, hh2, hBel2, hKt2⟩ := hcut
          have il0 := hI2.l0; have il1 := hI2.l1; have ih0 := hI2.h0; have ih1 := hI2.h1; have ilm := hI2.lm
          have q6 := hW2.cells.2.2.2.2.1
          have q7 := hW2.cells.2.2.2.2.2
          have hfin : ∀ n, ∃ bb' k', WalkM (wc.drewN n) base bw bb' m0 m1 m2 k' ∧ k'.Inv K C B ∧ k'.pos = k.pos ∧ k'.state = k.state ∧ (∀ i, k'.band.get i = if i = k.pos then x else k.band.get i) ∧ Below base w (wc.drewN n) ∧ Kt [3, 164, 139] w (wc.drewN n) := fun n =>
            ⟨bb2, k2, hW2.drewN n, hI2.inv, by rw [hp2, HK1.out]; exact k.wide_pos, by rw [hs2, HK1.out]; exact k.wide_state, fun i => by rw [hb2', HK1.out]; exact HTC.out i, pw_below_drewN hBel2 n, hKt2.drewN n⟩
          have HFIN := Lib.hid hfin
          have hhi : k2.high ≤ k.wide.high := by
            have h1 : k1.high = k.wide.high := by rw [HK1.out]
            omega
          have HHI := Lib.hid hhi
          clear hfin hW2 hI2 hb2' hp2 hs2 hh2 hBel2 hKt2 hhi
          by_cases e1 : k2.high < k2.low
          · as_aux_lemma =>
              have hd : decide (k2.high < k2.low) = true := by simpa using e1
              go_wp2
              go_quiet (fail)
              go_wp2
              go_ret
              obtain ⟨bb', k', h1, h2, h3, h4, h5, h6, h7⟩ := HFIN.out nq
              exact ⟨bb', k', .inl rfl, h1, h2, h3, h4, h5, h6, h7⟩
          · have hd : decide (k2.high < k2.low) = false := by simpa using e1
            have hge : -1099511627776 ≤ k2.low := ilm (by omega)
            have hd2 : decide (-1099511627776 ≤ k2.low) = true := by simpa using hge
            by_cases e2 : k2.low ≤ 1099511627776
            · as_aux_lemma =>
                have hd3 : decide (k2.low ≤ 1099511627776) = true := by simpa using e2
                go_wp2
                go_quiet (fail)
                go_wp2
                go_ret
                obtain ⟨bb', k', h1, h2, h3, h4, h5, h6, h7⟩ := HFIN.out nq
                exact ⟨bb', k', .inl rfl, h1, h2, h3, h4, h5, h6, h7⟩
            · as_aux_lemma =>
                have hd3 : decide (k2.low ≤ 1099511627776) = false := by simpa using e2
                have hgt : k.low ≤ k.high ∧ 1099511627776 < max k.high k.pos := by
                  have hw := HHI.out
                  unfold Wk.wide at hw
                  split at hw
                  · rename_i hlh
                    have hw' : k2.high ≤ max k.high k.pos := hw
                    exact ⟨hlh, by omega⟩
                  · have hw' : k2.high ≤ k.pos := hw
                    have := HI.out.p1
                    omega
                have HGT := Lib.hid hgt
                clear hgt
                go_wp2
                go_quiet (fail)
                go_wp2
                go_ret
                obtain ⟨bb', k', h1, h2, h3, h4, h5, h6, h7⟩ := HFIN.out nq
                exact ⟨bb', k', .inr ⟨rfl, HGT.out⟩, h1, h2, h3, h4, h5, h6, h7⟩
end Go.Proofs.Ytgnhlaonckognaa
