/- tape.Run walked, from the blank configuration. Conditions: a right machine, at most 1000000 steps. -/
import Derived.Test.YtgnhlaonckognaaTapeRunB
import Derived.Test.YtgnhlaonckognaaRefPlain
namespace Go.Proofs.Ytgnhlaonckognaa
open Go.RowKit Go.Proofs.YtgnhlaonckognaaW.PrintWords
set_option linter.unusedVariables false
set_option linter.unusedSimpArgs false

def RunPost (w : World) (m : Mc) (n : Nat) (e : Ending) (w' : World) : Prop :=
  New w w' ∧ ∃ (st pos fr : Int) (A : Option Addr) (L c : Nat) (steps er : Int), e = .returned (.tuple #[.agg #[.int .i64 st, .int .i64 pos, .int .i64 fr, .slice A L c], .int .i64 steps, .int .i64 er]) ∧
    ((er = 4 ∧ st = 0 ∧ 49000 < n) ∨ (er = 0 ∧ st = (runC m n blank).state))
theorem BandM.weaken {w : World} {base base' bb : Nat} {b : Band} (h : BandM w base bb b) (hb : base' ≤ base) : BandM w base' bb b := by
  obtain ⟨V, h1, h2, h3⟩ := h
  exact ⟨V, h1, Nat.le_trans hb h2, own_weaken h3 hb⟩
def RunBox (W1 : World) (m0 m1 m2 : Value) (s9 : Value) (wx : World) : Prop :=
  ∃ bw bb, s9 = .pointer (some ⟨bw, 0, none⟩) ∧ WalkM wx W1.heap.size bw bb m0 m1 m2 ⟨⟨[], 0⟩, 0, 0, 0, 0⟩ ∧ New W1 wx
theorem runbox_a {W1 w2 : World} {base bb : Nat} {m0 m1 m2 : Value} (hn : New W1 w2) (hM : BandM w2 base bb ⟨[], 0⟩) (hb : W1.heap.size ≤ base) :
    RunBox W1 m0 m1 m2 (.pointer (some ⟨w2.heap.size, 0, none⟩)) (w2.alloc (.cells #[m0, m1, m2, .pointer (some ⟨bb, 0, none⟩), .int .i64 0, .int .i64 0, .int .i64 0, .int .i64 0] 139)) :=
  ⟨_, bb, rfl, ⟨heap_alloc_new _ _, hn.size, (hM.weaken hb).new ((New.refl w2).alloc _)⟩, hn.alloc _⟩
theorem runbox_b {W1 w2 : World} {base bb : Nat} {m0 m1 m2 : Value} (hnew : New (W1.alloc (.cells #[.int .i64 0, .int .i64 0, .slice none 0 0, .pointer none, .int .i64 0, .int .i64 0, .int .i64 0, .int .i64 0] 139)).drew w2) (hn : New W1 w2) (hM : BandM w2 base bb ⟨[], 0⟩) (hb : W1.heap.size ≤ base) :
    RunBox W1 m0 m1 m2 (.pointer (some ⟨W1.heap.size, 0, none⟩)) ((((((((w2.setCell ⟨W1.heap.size, 0, none⟩ m0).setCell ⟨W1.heap.size, 1, none⟩ m1).setCell ⟨W1.heap.size, 2, none⟩ m2).setCell ⟨W1.heap.size, 3, none⟩ (.pointer (some ⟨bb, 0, none⟩))).setCell ⟨W1.heap.size, 4, none⟩ (.int .i64 0)).setCell ⟨W1.heap.size, 5, none⟩ (.int .i64 0)).setCell ⟨W1.heap.size, 6, none⟩ (.int .i64 0)).setCell ⟨W1.heap.size, 7, none⟩ (.int .i64 0)) := by
  have h0 : w2.heap[W1.heap.size]? = some (.cells #[.int .i64 0, .int .i64 0, .slice none 0 0, .pointer none, .int .i64 0, .int .i64 0, .int .i64 0, .int .i64 0] 139 (0, 0)) := hnew.blk (heap_alloc_new W1 _)
  have s0 := blk_set h0 0 m0
  have s1 := blk_set s0 1 m1
  have s2 := blk_set s1 2 m2
  have s3 := blk_set s2 3 (.pointer (some ⟨bb, 0, none⟩))
  have s4 := blk_set s3 4 (.int .i64 0)
  have s5 := blk_set s4 5 (.int .i64 0)
  have s6 := blk_set s5 6 (.int .i64 0)
  have s7 := blk_set s6 7 (.int .i64 0)
  have hM0 := hM.weaken hb
  have hM7 := (((((((hM0.set h0 (by decide) (by decide) 0 m0).set s0 (by decide) (by decide) 1 m1).set s1 (by decide) (by decide) 2 m2).set s2 (by decide) (by decide) 3 (.pointer (some ⟨bb, 0, none⟩))).set s3 (by decide) (by decide) 4 (.int .i64 0)).set s4 (by decide) (by decide) 5 (.int .i64 0)).set s5 (by decide) (by decide) 6 (.int .i64 0)).set s6 (by decide) (by decide) 7 (.int .i64 0)
  have hle : W1.heap.size ≤ W1.heap.size := Nat.le_refl _
  have hn7 := (((((((hn.set (p := ⟨W1.heap.size, 0, none⟩) hle m0).set (p := ⟨W1.heap.size, 1, none⟩) hle m1).set (p := ⟨W1.heap.size, 2, none⟩) hle m2).set (p := ⟨W1.heap.size, 3, none⟩) hle (.pointer (some ⟨bb, 0, none⟩))).set (p := ⟨W1.heap.size, 4, none⟩) hle (.int .i64 0)).set (p := ⟨W1.heap.size, 5, none⟩) hle (.int .i64 0)).set (p := ⟨W1.heap.size, 6, none⟩) hle (.int .i64 0)).set (p := ⟨W1.heap.size, 7, none⟩) hle (.int .i64 0)
  exact ⟨_, bb, rfl, ⟨by simpa using s7, hle, hM7⟩, hn7⟩
theorem run_keep {w w' : World} {a1 a2 a3 a4 a5 a6 a7 : Addr} {v1 v2 v3 v4 v5 v6 v7 : Value} (h1 : w.cell? a1 = some v1) (h2 : w.cell? a2 = some v2) (h3 : w.cell? a3 = some v3) (h4 : w.cell? a4 = some v4) (h5 : w.cell? a5 = some v5) (h6 : w.cell? a6 = some v6) (h7 : w.cell? a7 = some v7) (hN : New w w') :
    w'.cell? a1 = some v1 ∧ w'.cell? a2 = some v2 ∧ w'.cell? a3 = some v3 ∧ w'.cell? a4 = some v4 ∧ w'.cell? a5 = some v5 ∧ w'.cell? a6 = some v6 ∧ w'.cell? a7 = some v7 ∧ New w w' :=
  ⟨hN.cell h1, hN.cell h2, hN.cell h3, hN.cell h4, hN.cell h5, hN.cell h6, hN.cell h7, hN⟩
/-- From the blank tape no limit is met in 49000 steps. -/
theorem not_bad {m : Mc} {k : Wk} {K : Int} {i : Nat} (hi : k.Inv K 0 i) (hn : i ≤ 49000) (hr : RuleOk m (ruleAt m k.state (k.band.get k.pos))) : ¬ k.bad m := by
  have h1 := hi.ps; have h2 := hi.rg; have mv := hr.mv
  rintro (h | ⟨h3, h4⟩ | ⟨h3, h4⟩)
  · apply h
    rcases h1 with h1 | ⟨_, _, _, h1⟩ <;> rcases mv with e | e <;> rw [e] <;> omega
  · have := h2 h3
    rcases h1 with h1 | ⟨_, _, _, h1⟩ <;> omega
  · have := h2 h3
    rcases h1 with h1 | ⟨_, _, _, h1⟩ <;> omega
theorem run_results {W : World} {b : Nat} {st pos fr : Int} {A : Option Addr} {n c : Nat} (h : CfgM W b st pos fr A n c) (tmps : Array Value) (s e : Value) (ht : tmps[6]?.getD undef = .pointer (some ⟨b, 0, none⟩)) (h7 : tmps[7]?.getD undef = s) (h8 : tmps[8]?.getD undef = e) :
    (results Try.f49 tmps).run Try.prog W = .ok (.tuple #[.agg #[.int .i64 st, .int .i64 pos, .int .i64 fr, .slice A n c], s, e]) W := by
  have r0 : W.cell? ⟨b, 0, none⟩ = some (.int .i64 st) := blk_cell h 0 _ rfl
  have r1 : W.cell? ⟨b, 1, none⟩ = some (.int .i64 pos) := blk_cell h 1 _ rfl
  have r2 : W.cell? ⟨b, 2, none⟩ = some (.int .i64 fr) := blk_cell h 2 _ rfl
  have r3 : W.cell? ⟨b, 3, none⟩ = some (.slice A n c) := blk_cell h 3 _ rfl
  simp [results, Try.results49, go_sem, ht, h7, h8, r0, r1, r2, r3]
theorem conf_any (wr : World) (base bw bb : Nat) (m0 m1 m2 : Value) (k : Wk) (i : Nat) (h : WalkM wr base bw bb m0 m1 m2 k) (hi : k.Inv 1100000 0 i) :
    Calls Try.prog 80 #[.pointer (some ⟨bb, 0, none⟩), .int .i64 k.state, .int .i64 k.pos] wr (ConfigPost wr k.band k.state k.pos) := by
  refine call_config wr base bb k.band k.state k.pos h.2.2 ?_ (fun hne => by obtain ⟨s1, s2, s3, s4⟩ := hi.sz hne; omega)
  by_cases h2 : k.band.cells = []
  · rw [h2]; simp
  · have := (hi.sz h2).bd; omega
def RunRel (W1 : World) (bw : Nat) (m0 m1 m2 : Value) (m : Mc) (n : Nat) (gk : Nat) (v10 : Value) (wr : World) : Prop :=
  ∃ (i : Nat) (k : Wk) (bb : Nat), v10 = .int .i64 i ∧ i + gk = n ∧ WalkM wr W1.heap.size bw bb m0 m1 m2 k ∧ k.Inv 1100000 0 i ∧ k.cf = runC m i blank ∧ (∀ j, j < i → (runC m j blank).state ≠ -1) ∧ New W1 wr

set_option maxHeartbeats 16000000 in
set_option maxRecDepth 100000 in
theorem call_Run0 (w : World) (m0 m1 m2 : Value) (m : Mc) (hm : MachC w m0 m1 m2 m) (hg : m.Good) (n : Nat) (hn : n ≤ 1000000) :
    Calls Try.prog 49 #[.agg #[m0, m1, m2], .agg #[.int .i64 0, .int .i64 0, .int .i64 0, .slice none 0 0], .int .i64 n] w (RunPost w m n) := by
  have HM := Lib.hid hm; have HG := Lib.hid hg
  have hfit := fun W (hW : New w W) => call_fits0 W m0 m1 m2 m (hm.new hW) hg
  have HFIT := Lib.hid hfit
  have hsp : ∀ W, Calls Try.prog 78 #[.agg #[.int .i64 0, .int .i64 0, .int .i64 0, .slice none 0 0]] W (SpreadPost W ⟨[], 0⟩) := fun W => by
    have h := call_spread W 0 0 0 none 0 [] ⟨rfl, by simp, fun h => absurd h (Nat.lt_irrefl 0)⟩ (by simp) (by decide) (by decide)
    simpa using h
  have HSP := Lib.hid hsp
  have hm2 : ∃ A c, m2 = .slice A m.rules.length c := by obtain ⟨_, _, A, c, e, _⟩ := hm; exact ⟨A, c, e⟩
  obtain ⟨A0, c0, hm2⟩ := hm2
  have hm0 : m0 = .int .i64 m.states := by obtain ⟨e, _⟩ := hm; exact e
  have hm1 : m1 = .int .i64 m.symbols := by obtain ⟨_, e, _⟩ := hm; exact e
  clear hm hg hfit hsp
  subst hm0 hm1 hm2
  obtain ⟨nr, hnr⟩ : ∃ nr, nr = m.rules.length := ⟨_, rfl⟩
  rw [← hnr] at HM HFIT ⊢
  have HNR := Lib.hid hnr
  obtain ⟨st, hst⟩ : ∃ st, st = m.states := ⟨_, rfl⟩
  obtain ⟨sy, hsy⟩ : ∃ sy, sy = m.symbols := ⟨_, rfl⟩
  rw [← hst, ← hsy] at HM HFIT ⊢
  have HST := Lib.hid hst
  clear hnr hst hsy
  go_enter Try.func49, Try.ntmps49
  go_wp2_with fail
  obtain ⟨W0, hW0⟩ : ∃ W0, W0 = ((w.alloc (.cells #[.int .i64 st, .int .i64 sy, .slice A0 nr c0] 24)).alloc (.cells #[.int .i64 0, .int .i64 0, .int .i64 0, .slice none 0 0] 69)).alloc (.cells #[.int .i64 0, .int .i64 0, .int .i64 0, .slice none 0 0] 69) := ⟨_, rfl⟩
  have hn0 : New w W0 := by rw [hW0]; exact (((New.refl _).alloc _).alloc _).alloc _
  have hb1 : W0.heap[w.heap.size]? = some (.cells #[.int .i64 st, .int .i64 sy, .slice A0 nr c0] 24 (0, 0)) := by rw [hW0]; exact (((New.refl _).alloc _).alloc _).blk (heap_alloc_new w _)
  have hb2 : CfgM W0 (w.heap.size + 1) 0 0 0 none 0 0 := by rw [hW0]; exact ((New.refl _).alloc _).blk (heap_alloc_at _ _ _ (by simp))
  have hb3 : CfgM W0 (w.heap.size + 1 + 1) 0 0 0 none 0 0 := by rw [hW0]; exact heap_alloc_at _ _ _ (by simp)
  rw [← hW0]
  clear hW0
  refine (HFIT.out W0 hn0).mono ?_
  rintro e W1 ⟨rfl, hn1⟩
  have hB1 := hn1.blk hb1; have hB2 := hn1.blk hb2; have hB3 := hn1.blk hb3
  have HB1 := Lib.hid hB1; have HB2 := Lib.hid hB2; have HB3 := Lib.hid hB3; have HN1 := Lib.hid (hn0.trans hn1)
  have x0 := blk_cell hB1 0 _ rfl
  have x1 := blk_cell hB1 1 _ rfl
  have x2 := blk_cell hB1 2 _ rfl
  have y0 := blk_cell hB2 0 _ rfl
  have y1 := blk_cell hB2 1 _ rfl
  have y2 := blk_cell hB2 2 _ rfl
  have y3 := blk_cell hB2 3 _ rfl
  have hd1 : decide ((n : Int) < 0) = false := by simp
  have hd2 : decide (1000000 < (n : Int)) = false := by simp; omega
  clear hn0 hn1 hb1 hb2 hb3 hB1 hB2 hB3
  go_upto_region 5 with fail
  go_cut [9] (fun s9 wx => RunBox W1 (.int .i64 st) (.int .i64 sy) (.slice A0 nr c0) s9 wx)
  case first =>
    go_region_held3 (fun w' => w'.cell? ⟨w.heap.size, 0, none⟩ = some (.int .i64 st) ∧ w'.cell? ⟨w.heap.size, 1, none⟩ = some (.int .i64 sy) ∧ w'.cell? ⟨w.heap.size, 2, none⟩ = some (.slice A0 nr c0) ∧ w'.cell? ⟨w.heap.size + 1, 0, none⟩ = some (.int .i64 0) ∧ w'.cell? ⟨w.heap.size + 1, 1, none⟩ = some (.int .i64 0) ∧ w'.cell? ⟨w.heap.size + 1, 2, none⟩ = some (.int .i64 0) ∧ w'.cell? ⟨w.heap.size + 1, 3, none⟩ = some (.slice none 0 0) ∧ New W1 w') (first | (refine run_keep x0 x1 x2 y0 y1 y2 y3 ?_; (repeat (first | with_reducible assumption | with_reducible refine New.set ?_ ?_ _ | with_reducible refine New.alloc ?_ _ | with_reducible refine New.drew ?_ | with_reducible exact New.refl _ | exact Nat.le_refl _)); done)) (first | (go_at_call 78; refine (HSP.out _).mono ?_; rintro e w2 ⟨bb, rfl, hM, hnb⟩; have HNB := Lib.hid hnb; have HMB := Lib.hid hM; have hn2 : New W1 w2 := (by refine New.trans ?_ hnb; (repeat (first | with_reducible assumption | with_reducible refine New.alloc ?_ _ | with_reducible refine New.drew ?_ | with_reducible exact New.refl _))); (try (have hz : w2.heap[W1.heap.size]? = some (.cells #[.int .i64 0, .int .i64 0, .slice none 0 0, .pointer none, .int .i64 0, .int .i64 0, .int .i64 0, .int .i64 0] 139 (0, 0)) := HNB.out.blk (heap_alloc_new W1 _); have g0 := blk_cell hz 0 _ rfl; have f0 := blk_free hz 0; have g1 := blk_cell hz 1 _ rfl; have f1 := blk_free hz 1; have g2 := blk_cell hz 2 _ rfl; have f2 := blk_free hz 2; have g3 := blk_cell hz 3 _ rfl; have f3 := blk_free hz 3; have g4 := blk_cell hz 4 _ rfl; have f4 := blk_free hz 4; have g5 := blk_cell hz 5 _ rfl; have f5 := blk_free hz 5; have g6 := blk_cell hz 6 _ rfl; have f6 := blk_free hz 6; have g7 := blk_cell hz 7 _ rfl; have f7 := blk_free hz 7; have HZ9 := Lib.hid hz; clear hz)); clear hnb hM))
    all_goals
      go_wp2
      go_meet
      first
        | (with_reducible refine runbox_a hn2 HMB.out ?_
           first | exact Nat.le_refl _ | (simp; done))
        | (with_reducible refine runbox_b HNB.out hn2 HMB.out ?_
           first | (simp; done) | exact Nat.le_succ _)
  case rest =>
    obtain ⟨bw, bb, rfl, hW, hnx⟩ := hcut
    have HNX := Lib.hid hnx; have HW := Lib.hid hW
    have y2' := hnx.cell y2
    have y3' := hnx.cell y3
    have k6 := hW.cells.2.2.2.2.1
    have k7 := hW.cells.2.2.2.2.2
    have f6 := blk_free hW.1 6
    have f7 := blk_free hW.1 7
    clear x0 x1 x2 y0 y1 y2 y3 hW hnx
    go_wp2
    go_region
    have hW2 := (HW.out.set 6 (.int .i64 0) ⟨⟨[], 0⟩, 0, 0, 0, 0⟩ rfl rfl).set 7 (.int .i64 (-1)) Wk.start rfl rfl
    have hn2 := (HNX.out.set (p := ⟨bw, 6, none⟩) HW.out.2.1 (.int .i64 0)).set (p := ⟨bw, 7, none⟩) HW.out.2.1 (.int .i64 (-1))
    have hrel0 : RunRel W1 bw (.int .i64 st) (.int .i64 sy) (.slice A0 nr c0) m n n (.int .i64 0) (((wc.setCell ⟨bw, 6, none⟩ (.int .i64 0)).setCell ⟨bw, 7, none⟩ (.int .i64 (-1))).drew) :=
      ⟨0, Wk.start, bb, rfl, by omega, hW2, Wk.start_inv _, Wk.start_cf, fun j hj => absurd hj (by omega), hn2.drew⟩
    have HREL0 := Lib.hid hrel0
    clear hrel0 hW2 hn2 HNX HW y2' y3' k6 k7 f6 f7
    go_wp2
    go_loopg [10] n (fun gk v10 wr => RunRel W1 bw (.int .i64 st) (.int .i64 sy) (.slice A0 nr c0) m n gk v10 wr)
    case atStart => exact HREL0.out
    case round =>
      obtain ⟨i, k, bb1, rfl, hi, hW, hI, hcf, hall, hnew⟩ := hrel
      have HI := Lib.hid hi; have HW := Lib.hid hW; have HINV := Lib.hid hI; have HCF := Lib.hid hcf; have HALL := Lib.hid hall; have HNEW := Lib.hid hnew
      have k4 := hW.cells.2.2.1
      have k3 := hW.cells.2.1
      have k5 := hW.cells.2.2.2.1
      have hiM : i ≤ 1000000 := by omega
      have hok : k.cf.Ok m := by rw [hcf]; exact (blank_ok HG.out).run HG.out i
      have hsk : (runC m i blank).state = k.state := by rw [← hcf]; rfl
      have HOKK := Lib.hid hok; have HSK := Lib.hid hsk
      clear hi hW hI hcf hall hnew hok hsk
      by_cases hin : i < n
      · have hd3 : decide ((i : Int) < (n : Int)) = true := by simp; omega
        by_cases hst : k.state = -1
        · have hd4 : (k.state != -1) = false := by simpa using hst
          have HSTOP := Lib.hid hst
          clear hst
          have hfin : (runC m n blank).state = k.state := by
            rw [runC_stop_mono (a := i) (b := n) (by omega) (by rw [HSK.out]; exact HSTOP.out), HSK.out]
          have HFIN := Lib.hid hfin
          clear hfin
          go_wp2_with fail
          refine (conf_any wr W1.heap.size bw bb1 _ _ _ k i HW.out HINV.out).mono ?_
          rintro e w6 ⟨fr', v, xs', rfl, hown, htr, hn6⟩
          obtain ⟨Av, cv, hv⟩ := own_slice hown
          subst hv
          have h3 : CfgM w6 (w.heap.size + 1 + 1) 0 0 0 none 0 0 := hn6.blk (HNEW.out.blk HB3.out)
          have e0 := blk_free h3 0
          have e1 := blk_free h3 1
          have e2 := blk_free h3 2
          have e3 := blk_free h3 3
          have r0 := blk_cell h3 0 _ rfl
          have r1 := blk_cell h3 1 _ rfl
          have r2 := blk_cell h3 2 _ rfl
          have r3 := blk_cell h3 3 _ rfl
          have H3 := Lib.hid h3; have HN6 := Lib.hid hn6
          clear hown htr hn6 h3 k4 k3 k5
          generalize xs'.length = L
          go_wp2
          have hc9 := cfg_store H3.out k.state k.pos fr' Av L cv
          have hn9 := ((HN1.out.trans HNEW.out).trans HN6.out).set4 (b := w.heap.size + 1 + 1) (by omega) (.int .i64 k.state) (.int .i64 k.pos) (.int .i64 fr') (.slice Av L cv)
          generalize ((((w6.setCell ⟨w.heap.size + 1 + 1, 0, none⟩ (.int .i64 k.state)).setCell ⟨w.heap.size + 1 + 1, 1, none⟩ (.int .i64 k.pos)).setCell ⟨w.heap.size + 1 + 1, 2, none⟩ (.int .i64 fr')).setCell ⟨w.heap.size + 1 + 1, 3, none⟩ (.slice Av L cv)) = W9 at hc9 hn9 ⊢
          refine bodyPost_ret (run_results hc9 _ _ _ rfl rfl rfl) rfl ?_
          exact ⟨hn9, k.state, k.pos, fr', _, _, _, _, 0, rfl, .inr ⟨rfl, HFIN.out.symm⟩⟩
        · have hd4 : (k.state != -1) = true := by simpa using hst
          have hs0 : 0 ≤ k.state := by have h1 := HOKK.out.lo; have h2 : k.cf.state = k.state := rfl; omega
          have hstep := walk_step wr W1.heap.size bw bb1 (.int .i64 st) (.int .i64 sy) (.slice A0 nr c0) m k 1100000 0 i HW.out (HM.out.new (HN1.out.trans HNEW.out)) HG.out HINV.out hs0 HOKK.out HNEW.out.size (by decide) (by omega) (by omega) (by omega) (by omega)
          have HSTEP := Lib.hid hstep; have HNS := Lib.hid hst
          clear hstep hst
          go_wp2_with fail
          refine HSTEP.out.mono ?_
          rintro e w5 ⟨hb5, ⟨rfl, hbad⟩ | ⟨bb5, k5', rfl, hW5, hI5, hcf5, hk5⟩⟩
          · have hbig : 49000 < n := by
              rcases Nat.lt_or_ge 49000 n with h | h
              · exact h
              · exact absurd hbad (not_bad HINV.out (by omega) (HG.out.ruleOk hs0 HOKK.out.hi (HOKK.out.sym k.pos).1 (HOKK.out.sym k.pos).2))
            have h3 : CfgM w5 (w.heap.size + 1 + 1) 0 0 0 none 0 0 := (New.mk (HNEW.out.below.trans hb5) : New W1 w5).blk HB3.out
            have e0 := blk_free h3 0
            have e1 := blk_free h3 1
            have e2 := blk_free h3 2
            have e3 := blk_free h3 3
            have r0 := blk_cell h3 0 _ rfl
            have r1 := blk_cell h3 1 _ rfl
            have r2 := blk_cell h3 2 _ rfl
            have r3 := blk_cell h3 3 _ rfl
            have H3 := Lib.hid h3; have HB5 := Lib.hid hb5
            clear hb5 hbad h3 k4 k3 k5
            go_wp2
            have hc9 := cfg_store H3.out 0 0 0 none 0 0
            have hn9 := (HN1.out.trans (New.mk (HNEW.out.below.trans HB5.out) : New W1 w5)).set4 (b := w.heap.size + 1 + 1) (by omega) (.int .i64 0) (.int .i64 0) (.int .i64 0) (.slice none 0 0)
            generalize ((((w5.setCell ⟨w.heap.size + 1 + 1, 0, none⟩ (.int .i64 0)).setCell ⟨w.heap.size + 1 + 1, 1, none⟩ (.int .i64 0)).setCell ⟨w.heap.size + 1 + 1, 2, none⟩ (.int .i64 0)).setCell ⟨w.heap.size + 1 + 1, 3, none⟩ (.slice none 0 0)) = W9 at hc9 hn9 ⊢
            refine bodyPost_ret (run_results hc9 _ _ _ rfl rfl rfl) rfl ?_
            exact ⟨hn9, 0, 0, 0, _, _, _, _, 4, rfl, .inl ⟨rfl, rfl, hbig⟩⟩
          · have HW5 := Lib.hid hW5; have HI5 := Lib.hid hI5; have HCF5 := Lib.hid hcf5; have HB5 := Lib.hid hb5
            clear hb5 hW5 hI5 hcf5 hk5 k4 k3 k5
            go_wp2
            go_roundg (gk - 1)
            case measure => have := HI.out; omega
            case rel =>
              refine ⟨i + 1, k5', bb5, by go_num, by have := HI.out; omega, HW5.out, by have := HI5.out; simpa using this, ?_, fun j hj => ?_, ⟨HNEW.out.below.trans HB5.out⟩⟩
              · rw [HCF5.out, HCF.out, runC_succ]; unfold stepS; rw [if_neg (by rw [HSK.out]; exact HNS.out)]
              · by_cases e : j = i
                · subst e; rw [HSK.out]; exact HNS.out
                · exact HALL.out j (by omega)
      · have hd3 : decide ((i : Int) < (n : Int)) = false := by simp; omega
        have hfin : (runC m n blank).state = k.state := by
          have : n = i := by have := HI.out; omega
          rw [this, HSK.out]
        have HFIN := Lib.hid hfin
        clear hfin
        go_wp2_with fail
        refine (conf_any wr W1.heap.size bw bb1 _ _ _ k i HW.out HINV.out).mono ?_
        rintro e w6 ⟨fr', v, xs', rfl, hown, htr, hn6⟩
        obtain ⟨Av, cv, hv⟩ := own_slice hown
        subst hv
        have h3 : CfgM w6 (w.heap.size + 1 + 1) 0 0 0 none 0 0 := hn6.blk (HNEW.out.blk HB3.out)
        have e0 := blk_free h3 0
        have e1 := blk_free h3 1
        have e2 := blk_free h3 2
        have e3 := blk_free h3 3
        have r0 := blk_cell h3 0 _ rfl
        have r1 := blk_cell h3 1 _ rfl
        have r2 := blk_cell h3 2 _ rfl
        have r3 := blk_cell h3 3 _ rfl
        have H3 := Lib.hid h3; have HN6 := Lib.hid hn6
        clear hown htr hn6 h3 k4 k3 k5
        generalize xs'.length = L
        go_wp2
        have hc9 := cfg_store H3.out k.state k.pos fr' Av L cv
        have hn9 := ((HN1.out.trans HNEW.out).trans HN6.out).set4 (b := w.heap.size + 1 + 1) (by omega) (.int .i64 k.state) (.int .i64 k.pos) (.int .i64 fr') (.slice Av L cv)
        generalize ((((w6.setCell ⟨w.heap.size + 1 + 1, 0, none⟩ (.int .i64 k.state)).setCell ⟨w.heap.size + 1 + 1, 1, none⟩ (.int .i64 k.pos)).setCell ⟨w.heap.size + 1 + 1, 2, none⟩ (.int .i64 fr')).setCell ⟨w.heap.size + 1 + 1, 3, none⟩ (.slice Av L cv)) = W9 at hc9 hn9 ⊢
        refine bodyPost_ret (run_results hc9 _ _ _ rfl rfl rfl) rfl ?_
        exact ⟨hn9, k.state, k.pos, fr', _, _, _, _, 0, rfl, .inr ⟨rfl, HFIN.out.symm⟩⟩
end Go.Proofs.Ytgnhlaonckognaa
