/- tape.config, Fits and Run walked, from the blank configuration. Conditions: a right machine, at most 1000000 steps. -/
import Derived.Test.YtgnhlaonckognaaTapeStepB
import Derived.Test.YtgnhlaonckognaaTapeRun
import Derived.Test.YtgnhlaonckognaaBackC
import Derived.Test.YtgnhlaonckognaaPrValid
import Derived.Test.YtgnhlaonckognaaPBackLevelsx6
namespace Go.Proofs.Ytgnhlaonckognaa
open Go.RowKit Go.Proofs.YtgnhlaonckognaaW.PrintWords Go.Proofs.Ytgnhlaonckognaa.PBackLevels
set_option linter.unusedVariables false
set_option linter.unusedSimpArgs false

theorem fits_blank (st sy : Int) (h : 1 ≤ st) : tape_fits.f 3 st sy 0 0 0 [] = some true := by
  unfold tape_fits.f
  rw [if_neg (by omega), if_neg (by omega), if_neg (by omega), if_neg (by omega), if_neg (by omega)]
  simp [tape_fits.j0, tape_fits.j1, tape_fits.l0]
def NewB (w : World) (b : Bool) (e : Ending) (w' : World) : Prop := e = .returned (.bool b) ∧ New w w'
set_option maxHeartbeats 2000000 in
set_option maxRecDepth 100000 in
theorem call_fits0 (w : World) (m0 m1 m2 : Value) (m : Mc) (hm : MachC w m0 m1 m2 m) (hg : m.Good) :
    Calls Try.prog 44 #[.agg #[m0, m1, m2], .agg #[.int .i64 0, .int .i64 0, .int .i64 0, .slice none 0 0]] w (NewB w true) := by
  have hok : m.ok = true := Mc.good_iff.2 hg
  have hsz := hg.sizes
  have hv := fun W (hW : New w W) => call_tapeValid W m0 m1 m2 m (hm.new hW) (fun row hr => by have := hsz.2 row hr; omega) (by omega)
  rw [hok] at hv
  obtain ⟨e0, e1, A, c, e2, _⟩ := hm
  have hs0 := hg.s0
  have hfit := fun W => tape_fits.calls 3 m.states m.symbols 0 0 0 none 0 [] true W (Kd.C_nil _ W) (Nat.le_refl _) (fits_blank _ _ hs0)
  have HV := Lib.hid hv; have HFIT := Lib.hid hfit
  subst e0; subst e1; subst e2
  clear hv hfit hg hsz hok
  go_enter Try.func44, Try.ntmps44
  go_wp2_with fail
  obtain ⟨W0, hW0⟩ : ∃ W0, W0 = (w.alloc (.cells #[.int .i64 m.states, .int .i64 m.symbols, .slice A m.rules.length c] 24)).alloc (.cells #[.int .i64 0, .int .i64 0, .int .i64 0, .slice none 0 0] 69) := ⟨_, rfl⟩
  have hn0 : New w W0 := by rw [hW0]; exact ((New.refl _).alloc _).alloc _
  have hb1 : W0.heap[w.heap.size]? = some (.cells #[.int .i64 m.states, .int .i64 m.symbols, .slice A m.rules.length c] 24 (0, 0)) := by rw [hW0]; exact ((New.refl _).alloc _).blk (heap_alloc_new w _)
  have hb2 : W0.heap[w.heap.size + 1]? = some (.cells #[.int .i64 0, .int .i64 0, .int .i64 0, .slice none 0 0] 69 (0, 0)) := by rw [hW0]; exact heap_alloc_at _ _ _ (by simp)
  rw [← hW0]
  clear hW0
  refine (HV.out W0 hn0).mono ?_
  rintro e w2 ⟨rfl, hn2⟩
  have x0 := blk_cell (hn2.blk hb1) 0 _ rfl
  have x1 := blk_cell (hn2.blk hb1) 1 _ rfl
  have y0 := blk_cell (hn2.blk hb2) 0 _ rfl
  have y1 := blk_cell (hn2.blk hb2) 1 _ rfl
  have y2 := blk_cell (hn2.blk hb2) 2 _ rfl
  have y3 := blk_cell (hn2.blk hb2) 3 _ rfl
  have HN := Lib.hid (hn0.trans hn2)
  clear hn0 hn2 hb1 hb2
  go_wp2_with fail
  refine (HFIT.out w2).mono ?_
  rintro e w3 ⟨rfl, hn3⟩
  have HN3 := Lib.hid hn3
  clear hn3 x0 x1 y0 y1 y2 y3
  go_wp2
  go_ret
  exact ⟨rfl, HN.out.trans ⟨HN3.out⟩⟩

theorem reads_C {w : World} {A : Option Addr} {n : Nat} {xs : List Int} (h : ReadsInt w .i64 A n xs) : (Kd.int .i64).C w A n xs := by
  refine ⟨h.1, h.2.1, fun hn => ?_⟩
  obtain ⟨ad, e, hc⟩ := h.2.2 hn
  refine ⟨ad, e, fun j p hj => ?_⟩
  obtain ⟨hl, he⟩ := List.getElem?_eq_some_iff.1 hj
  refine ⟨[.int .i64 p], rfl, rfl, fun i v hv => ?_⟩
  have hsz : (Kd.int .i64).sz = 1 := rfl
  have hi : i = 0 := by
    rcases Nat.eq_zero_or_pos i with h0 | h0
    · exact h0
    · rw [List.getElem?_eq_none (by simp; omega)] at hv; simp at hv
  subst hi
  simp only [List.getElem?_cons_zero, Option.some.injEq] at hv
  have := hc j (by rw [← h.1]; exact hl)
  rw [hsz, Nat.mul_one, Nat.add_zero, this, ← hv, List.getD_eq_getElem?_getD, hj]
  rfl

def ConfigPost (w : World) (b : Band) (st pos : Int) (e : Ending) (w' : World) : Prop :=
  ∃ fr' v xs', e = .returned (.agg #[.int .i64 st, .int .i64 pos, .int .i64 fr', v]) ∧ w'.ownsRow w.heap.size 3 1 v xs'.length (nums .i64 xs') ∧ TrimOf (-b.zero) b.cells fr' xs' ∧ New w w'
/-- What the first statement of config leaves. -/
def ConfBox (w W0 : World) (b : Band) (st pos : Int) (s7 : Value) (wx : World) : Prop :=
  ∃ g fr' A c xs', s7 = .pointer (some ⟨g, 0, none⟩) ∧ W0.heap.size ≤ g ∧ CfgM wx g st pos fr' A xs'.length c ∧ ReadsInt wx .i64 A xs'.length xs' ∧ TrimOf (-b.zero) b.cells fr' xs' ∧ New W0 wx

theorem conf_keep {w w' : World} {a1 a2 : Addr} {v1 v2 : Value} (h1 : w.cell? a1 = some v1) (h2 : w.cell? a2 = some v2) (hN : New w w') : w'.cell? a1 = some v1 ∧ w'.cell? a2 = some v2 ∧ New w w' := ⟨hN.cell h1, hN.cell h2, hN⟩
theorem bcell {W w1 : World} (hb : Below W.heap.size W w1) : (∀ b o, b < W.heap.size → w1.cell? ⟨b, o, none⟩ = W.cell? ⟨b, o, none⟩) ∧ (∀ b o, b < W.heap.size → w1.frozen? ⟨b, o, none⟩ = W.frozen? ⟨b, o, none⟩) :=
  ⟨fun b o h => hb.cell (p := ⟨b, o, none⟩) h, fun b o h => hb.frozen (p := ⟨b, o, none⟩) h⟩

theorem conf_a {w W0 w2 : World} {b : Band} {st pos fr' : Int} {A' : Option Addr} {c' : Nat} {xs' : List Int} (h0 : New w W0) (hn : New W0 w2) (hrd : ReadsInt w .i64 A' xs'.length xs') (htr : TrimOf (-b.zero) b.cells fr' xs') :
    ConfBox w W0 b st pos (.pointer (some ⟨w2.heap.size, 0, none⟩)) (w2.alloc (.cells #[.int .i64 st, .int .i64 pos, .int .i64 fr', .slice A' xs'.length c'] 69)) :=
  ⟨_, fr', A', c', xs', rfl, hn.size, heap_alloc_new _ _, hrd.below ((h0.trans hn).alloc _).below, htr, hn.alloc _⟩
theorem conf_b {w W0 w2 : World} {b : Band} {st pos fr' : Int} {A' : Option Addr} {c' : Nat} {xs' : List Int} (hnew : New (W0.alloc (.cells #[.int .i64 0, .int .i64 0, .int .i64 0, .slice none 0 0] 69)).drew w2) (h0 : New w W0) (hn : New W0 w2) (hrd : ReadsInt w .i64 A' xs'.length xs') (htr : TrimOf (-b.zero) b.cells fr' xs') :
    ConfBox w W0 b st pos (.pointer (some ⟨W0.heap.size, 0, none⟩)) ((((w2.setCell ⟨W0.heap.size, 0, none⟩ (.int .i64 st)).setCell ⟨W0.heap.size, 1, none⟩ (.int .i64 pos)).setCell ⟨W0.heap.size, 2, none⟩ (.int .i64 fr')).setCell ⟨W0.heap.size, 3, none⟩ (.slice A' xs'.length c')) := by
  have hb0 : CfgM w2 W0.heap.size 0 0 0 none 0 0 := hnew.blk (heap_alloc_new W0 _)
  have hN := hn.set4 (Nat.le_refl _) (.int .i64 st) (.int .i64 pos) (.int .i64 fr') (.slice A' xs'.length c')
  exact ⟨_, fr', A', c', xs', rfl, Nat.le_refl _, cfg_store hb0 st pos fr' A' _ c', hrd.below (h0.trans hN).below, htr, hN⟩
theorem cfg_results2 {W : World} {b : Nat} {st pos fr : Int} {A : Option Addr} {n c : Nat} (h : CfgM W b st pos fr A n c) (tmps : Array Value) (ht : tmps[6]?.getD undef = .pointer (some ⟨b, 0, none⟩)) :
    (results Try.f80 tmps).run Try.prog W = .ok (.agg #[.int .i64 st, .int .i64 pos, .int .i64 fr, .slice A n c]) W := by
  have r0 : W.cell? ⟨b, 0, none⟩ = some (.int .i64 st) := blk_cell h 0 _ rfl
  have r1 : W.cell? ⟨b, 1, none⟩ = some (.int .i64 pos) := blk_cell h 1 _ rfl
  have r2 : W.cell? ⟨b, 2, none⟩ = some (.int .i64 fr) := blk_cell h 2 _ rfl
  have r3 : W.cell? ⟨b, 3, none⟩ = some (.slice A n c) := blk_cell h 3 _ rfl
  simp [results, Try.results80, go_sem, ht, r0, r1, r2, r3]

set_option maxHeartbeats 8000000 in
set_option maxRecDepth 100000 in
theorem call_config (w : World) (base bb : Nat) (b : Band) (st pos : Int) (h : BandM w base bb b) (hl : b.cells.length ≤ 100000000) (hzb : b.cells ≠ [] → -4398046511104 ≤ b.zero ∧ b.zero ≤ 4398046511104) :
    Calls Try.prog 80 #[.pointer (some ⟨bb, 0, none⟩), .int .i64 st, .int .i64 pos] w (ConfigPost w b st pos) := by
  obtain ⟨V, hb, hB, hO⟩ := h
  obtain ⟨A, c, hV⟩ := own_slice hO
  subst hV
  obtain ⟨_, hlc, hC⟩ := Kd.R_reads' (R_of_own hO)
  have hrd := C_reads hC
  obtain ⟨f, hf⟩ : ∃ f, f = IntKind.i64.wrap (-b.zero) := ⟨_, rfl⟩
  have hfz : b.cells ≠ [] → f = -b.zero := fun hne => by have := hzb hne; rw [hf, IntKind.wrap_i64]; omega
  have hconv : ∀ fr' xs', TrimOf f b.cells fr' xs' → TrimOf (-b.zero) b.cells fr' xs' := fun fr' xs' h => by
    by_cases hne : b.cells = []
    · refine ⟨fun x => ?_, h.nil, h.first, h.last, h.len⟩
      rw [h.get, hne, getC_nil, getC_nil]
    · rw [← hfz hne]; exact h
  have htr := fun W (hW : New w W) => call_trimmed w W hW st pos f A c b.cells hrd hlc hl (fun hne => by have := hzb hne; rw [hfz hne]; omega)
  have hng : IntKind.i64.wrap (-b.zero) = f := hf.symm
  have HCONV := Lib.hid hconv
  have c0 := blk_cell hb 0 _ rfl
  have c1 := blk_cell hb 1 _ rfl
  obtain ⟨n, hn⟩ : ∃ n, n = b.cells.length := ⟨_, rfl⟩
  obtain ⟨z, hz⟩ : ∃ z, z = b.zero := ⟨_, rfl⟩
  rw [← hn] at c0 htr hl
  rw [← hz] at c1 hng
  have HN := Lib.hid hn; have HZ := Lib.hid hz; have HTR := Lib.hid htr
  clear hn hz htr hrd hC hO hb hlc hf hfz hconv hzb
  go_enter Try.func80, Try.ntmps80
  go_upto_region 1 with fail
  obtain ⟨W0, hW0⟩ : ∃ W0, W0 = w.alloc (.cells #[.int .i64 0, .int .i64 0, .int .i64 0, .slice none 0 0] 69) := ⟨_, rfl⟩
  have hn0 : New w W0 := by rw [hW0]; exact (New.refl _).alloc _
  have hb0 : CfgM W0 w.heap.size 0 0 0 none 0 0 := by rw [hW0]; exact heap_alloc_new _ _
  rw [← hW0]
  have HN0 := Lib.hid hn0; have HB0 := Lib.hid hb0
  replace c0 := hn0.cell c0
  replace c1 := hn0.cell c1
  clear hW0 hn0 hb0
  go_cut [7] (fun s7 wx => ConfBox w W0 b st pos s7 wx)
  case first =>
    go_region_held3 (fun w' => w'.cell? ⟨bb, 0, none⟩ = some (.slice A n c) ∧ w'.cell? ⟨bb, 1, none⟩ = some (.int .i64 z) ∧ New W0 w') (first | (refine conf_keep c0 c1 ?_; (repeat (first | with_reducible assumption | with_reducible refine New.set ?_ ?_ _ | with_reducible refine New.alloc ?_ _ | with_reducible refine New.drew ?_ | with_reducible exact New.refl _ | exact Nat.le_refl _)); done)) (first | (go_at_call 100; refine (HTR.out _ ?_).mono ?_; (refine HN0.out.trans ?_; (repeat (first | with_reducible assumption | with_reducible refine New.alloc ?_ _ | with_reducible refine New.drew ?_ | with_reducible exact New.refl _))); rintro e w2 ⟨fr', A', c', xs', rfl, hrd, hcx, htr, hnew⟩; have HNEW := Lib.hid hnew; have hn2 : New W0 w2 := (by refine New.trans ?_ hnew; (repeat (first | with_reducible assumption | with_reducible refine New.alloc ?_ _ | with_reducible refine New.drew ?_ | with_reducible exact New.refl _))); have HRD := Lib.hid hrd; have HTO := Lib.hid htr; obtain ⟨hce, hfz⟩ := bcell hnew.below; clear hrd htr hcx hnew))
    all_goals
      go_wp2
      go_meet
      first
        | with_reducible exact conf_a HN0.out hn2 HRD.out (HCONV.out _ _ HTO.out)
        | with_reducible exact conf_b HNEW.out HN0.out hn2 HRD.out (HCONV.out _ _ HTO.out)
  case rest =>
    obtain ⟨g, fr', A', c', xs', rfl, hg, hcf, hrd, htr, hnw⟩ := hcut
    have hb0' := hnw.blk HB0.out
    have hcl := call_Clone wc A' c' xs' (reads_C hrd) (by have := htr.len; have := HN.out; omega)
    have k3 := blk_cell hcf 3 _ rfl
    have HCF := Lib.hid hcf; have HTR2 := Lib.hid htr; have HNW := Lib.hid hnw; have HCL := Lib.hid hcl; have HG := Lib.hid hg; have HB1 := Lib.hid hb0'
    clear c0 c1 hng hcf hrd htr hnw hcl hg hb0' HTR
    go_wp2_with fail
    refine HCL.out.mono ?_
    rintro e w3 ⟨v, rfl, hown, hn3⟩
    obtain ⟨A3, c3, hv⟩ := own_slice hown
    generalize hL : xs'.length = L at hv hown
    subst hv
    have HL := Lib.hid hL; have HOWN := Lib.hid hown; have HN3 := Lib.hid hn3
    have hcf3 : CfgM w3 g st pos fr' A' xs'.length c' := hn3.blk HCF.out
    have hb3 : CfgM w3 w.heap.size 0 0 0 none 0 0 := hn3.blk HB1.out
    have hgb : ¬ g = w.heap.size := by have h1 := HG.out; have h2 := bbound HB0.out; omega
    have hgb2 : ¬ w.heap.size = g := fun e => hgb e.symm
    have k0 := blk_cell hcf3 0 _ rfl
    have k1 := blk_cell hcf3 1 _ rfl
    have k2 := blk_cell hcf3 2 _ rfl
    have k3b := blk_cell hcf3 3 _ rfl
    have f3 := blk_free hcf3 3
    have r0 := blk_cell hb3 0 _ rfl
    have r1 := blk_cell hb3 1 _ rfl
    have r2 := blk_cell hb3 2 _ rfl
    have r3 := blk_cell hb3 3 _ rfl
    have e0 := blk_free hb3 0
    have e1 := blk_free hb3 1
    have e2 := blk_free hb3 2
    have e3 := blk_free hb3 3
    have HCF3 := Lib.hid hcf3; have HB3 := Lib.hid hb3
    clear hL hown hn3 hcf3 hb3 k3
    go_wp2
    have hW1 : CfgM (w3.setCell ⟨g, 3, none⟩ (.slice A3 L c3)) w.heap.size 0 0 0 none 0 0 := (Below.heap_setCell _ _ _ _ (by exact hgb2)).trans HB3.out
    have hc9 := cfg_store hW1 st pos fr' A3 L c3
    have hgw : w.heap.size ≤ g := Nat.le_trans HN0.out.size HG.out
    have hn9 := (((HN0.out.trans HNW.out).trans HN3.out).set (p := ⟨g, 3, none⟩) hgw (.slice A3 L c3)).set4 (b := w.heap.size) (Nat.le_refl _) (.int .i64 st) (.int .i64 pos) (.int .i64 fr') (.slice A3 L c3)
    have ho9 : ((((((w3.setCell ⟨g, 3, none⟩ (.slice A3 L c3)).setCell ⟨w.heap.size, 0, none⟩ (.int .i64 st)).setCell ⟨w.heap.size, 1, none⟩ (.int .i64 pos)).setCell ⟨w.heap.size, 2, none⟩ (.int .i64 fr')).setCell ⟨w.heap.size, 3, none⟩ (.slice A3 L c3))).ownsRow w.heap.size 3 1 (.slice A3 L c3) L (nums .i64 xs') := by
      have hh := own_weaken HOWN.out (HN0.out.trans HNW.out).size
      have h1 := own_set_blk hh HCF3.out (by decide) 3 (.slice A3 L c3)
      have h2 := own_set_blk h1 hW1 (by decide) 0 (.int .i64 st)
      have h3 := own_set_blk h2 (blk_set hW1 0 _) (by decide) 1 (.int .i64 pos)
      have h4 := own_set_blk h3 (blk_set (blk_set hW1 0 _) 1 _) (by decide) 2 (.int .i64 fr')
      exact own_set_blk h4 (blk_set (blk_set (blk_set hW1 0 _) 1 _) 2 _) (by decide) 3 (.slice A3 L c3)
    generalize ((((((w3.setCell ⟨g, 3, none⟩ (.slice A3 L c3)).setCell ⟨w.heap.size, 0, none⟩ (.int .i64 st)).setCell ⟨w.heap.size, 1, none⟩ (.int .i64 pos)).setCell ⟨w.heap.size, 2, none⟩ (.int .i64 fr')).setCell ⟨w.heap.size, 3, none⟩ (.slice A3 L c3))) = W9 at hc9 hn9 ho9 ⊢
    refine bodyPost_ret (cfg_results2 hc9 _ rfl) rfl ?_
    exact ⟨fr', _, xs', rfl, by rw [HL.out]; exact ho9, HTR2.out, hn9⟩
end Go.Proofs.Ytgnhlaonckognaa
