/- BackLevels walked: it answers true. Conditions: a machine in memory, any number. -/
import Derived.Test.YtgnhlaonckognaaRLevel
import Derived.Test.YtgnhlaonckognaaAwake
namespace Go.Proofs.Ytgnhlaonckognaa
open Go.RowKit Go.Proofs.YtgnhlaonckognaaW.PrintWords
set_option linter.unusedVariables false
set_option linter.unusedSimpArgs false

theorem codeI_ne {m : Mc} {k : Int} (h : codeI m k ≠ 0) : levelR m k = ([], codeI m k) := by
  unfold codeI at h ⊢
  unfold levelR
  cases hk : m.ok
  · simp
  · rw [hk, if_pos rfl] at h
    by_cases h1 : k < 0
    · simp [h1]
    · by_cases h2 : k > 100
      · simp [h1, h2]
      · rw [if_neg h1, if_neg h2] at h
        exact absurd rfl h
theorem codeI_zero {m : Mc} {k : Int} (h : codeI m k = 0) : m.Good ∧ 0 ≤ k ∧ k ≤ 100 := by
  unfold codeI at h
  split at h
  · rename_i h1
    refine ⟨Mc.good_iff.1 h1, ?_⟩
    split at h
    · simp at h
    · split at h
      · simp at h
      · omega
  · simp at h
theorem levelR_of_some {m : Mc} {kn mo : Nat} (h : codeI m kn = 0) (hmo : mo ≤ 2000) {l : List Pt} (hl : rlevelR m kn mo = some l) : l = levelL m kn ∧ levelR m kn = (levelL m kn, 0) ∧ l.length ≤ mo := by
  obtain ⟨hg, h0, h1⟩ := codeI_zero h
  unfold rlevelR at hl
  split at hl
  · rename_i hs
    injection hl with hl
    refine ⟨hl.symm, ?_⟩
    unfold levelR
    rw [if_neg (by rw [Mc.good_iff.2 hg]; simp), if_neg (by omega), if_pos (fun j hj => by have := hs (j + 1) (by omega); omega)]
    · exact ⟨by simp, by rw [← hl]; exact hs kn (Nat.le_refl _)⟩
  · simp at hl
theorem levelR_err {m : Mc} {kn : Nat} (h : codeI m kn = 0) : (levelR m kn).2 = 0 ∨ (levelR m kn).2 = 4 := by
  obtain ⟨hg, h0, h1⟩ := codeI_zero h
  unfold levelR
  rw [if_neg (by rw [Mc.good_iff.2 hg]; simp), if_neg (by omega)]
  split
  · exact .inl rfl
  · exact .inr rfl
theorem pt_cells2 {w : World} {A : Option Addr} {l : List Pt} (h : Kd.C kPt w A l.length l) (i : Nat) (h1 : i < l.length) :
    ∃ ad A2 c, A = some ad ∧ w.cell? (ad.add (i * 3)) = some (.int .i64 (l.getD i default).state) ∧
      w.cell? ⟨(ad.add (i * 3)).block, (ad.add (i * 3)).off + 1, none⟩ = some (.int .i64 (l.getD i default).head) ∧
      w.cell? ⟨(ad.add (i * 3)).block, (ad.add (i * 3)).off + 2, none⟩ = some (.slice A2 (l.getD i default).cells.length c) ∧
      kPt.K w (l.getD i default) [.int .i64 (l.getD i default).state, .int .i64 (l.getD i default).head, .slice A2 (l.getD i default).cells.length c] := by
  obtain ⟨ad, cs, e, hl, hK, hcell⟩ := Kd.C_get h (default : Pt) (i : Int) (by omega) (by omega)
  rw [Int.toNat_natCast] at hK hcell
  obtain ⟨A2, c, rfl, hc, hC⟩ := kPt_open hK
  have hsz : kPt.sz = 3 := rfl
  rw [hsz] at hcell
  exact ⟨ad, A2, c, e, hcell 0 _ rfl, by rw [← add_field _ _ 1 (by omega)]; exact hcell 1 _ rfl, by rw [← add_field _ _ 2 (by omega)]; exact hcell 2 _ rfl, hK⟩
theorem kPt_below {w w' : World} {p : Pt} {h c : Value} {A : Option Addr} {n : Nat} (h0 : kPt.K w p [h, c, .slice A p.cells.length n]) (hb : New w w') : kPt.K w' p [h, c, .slice A p.cells.length n] := by
  obtain ⟨A2, c2, e, hc, hC⟩ := kPt_open h0
  injection e with e1 e
  injection e with e2 e
  injection e with e3 e
  injection e3 with e3 e4 e5
  subst e1; subst e2; subst e3; subst e5
  exact kPt_mk w' p hc (Kd.C_below hC hb.below)
def LwRel (wl : World) (k : Nat) (gk : Nat) (v10 : Value) (wr : World) : Prop := ∃ i : Nat, v10 = .int .i64 i ∧ i + gk = k ∧ New wl wr

set_option maxHeartbeats 800000 in
set_option maxRecDepth 100000 in
theorem call_BackLevels (w : World) (m0 m1 m2 : Value) (m : Mc) (hm : MachC w m0 m1 m2 m) (hsz : m.Sz) (k : Int) :
    Calls Try.prog 3 #[.agg #[m0, m1, m2], .int .i64 k] w (NewB w true) := by
  have HM := Lib.hid hm
  have hlv := fun W (hW : New w W) => call_Level W m0 m1 m2 m (hm.new hW) hsz k
  have hcd := fun W (hW : New w W) => call_code W m0 m1 m2 m k (hm.new hW) hsz.1 hsz.2
  obtain ⟨r, hr⟩ : ∃ r, r = levelR m k := ⟨_, rfl⟩
  obtain ⟨cd, hc⟩ : ∃ cd, cd = codeI m k := ⟨_, rfl⟩
  rw [← hr] at hlv
  rw [← hc] at hcd
  have HLV := Lib.hid hlv; have HCD := Lib.hid hcd; have HR := Lib.hid hr; have HC := Lib.hid hc
  have hm2 : ∃ A c, m2 = .slice A m.rules.length c := by obtain ⟨_, _, A, c, e, _⟩ := hm; exact ⟨A, c, e⟩
  obtain ⟨A0, c0, hm2⟩ := hm2
  have hb0 := heap_alloc_new w (.cells #[m0, m1, m2] 24)
  have HB0 := Lib.hid hb0
  clear hm hsz hlv hcd hr hc hb0
  subst hm2
  go_enter Try.func3, Try.ntmps3
  go_wp2_with fail
  refine (HLV.out _ ((New.refl w).alloc _)).mono ?_
  rintro e w1 ⟨v, rfl, hp, hn1⟩
  obtain ⟨A1, c1, hv, hcap, hC1⟩ := Kd.R_reads hp
  obtain ⟨L, hL⟩ : ∃ L, L = r.1.length := ⟨_, rfl⟩
  obtain ⟨er, her⟩ : ∃ er, er = r.2 := ⟨_, rfl⟩
  rw [← hL] at hv
  subst hv
  rw [← her]
  have HL := Lib.hid hL; have HER := Lib.hid her; have HN1 := Lib.hid (((New.refl w).alloc _).trans hn1); have HC1 := Lib.hid hC1
  have hb1 := hn1.blk HB0.out
  have HB1 := Lib.hid hb1
  have x0 := blk_cell hb1 0 _ rfl
  have x1 := blk_cell hb1 1 _ rfl
  have x2 := blk_cell hb1 2 _ rfl
  clear hp hcap hC1 hL her hn1 hb1 HB0
  go_wp2_with fail
  refine (HCD.out _ HN1.out).mono ?_
  rintro e w2 ⟨rfl, hn2⟩
  have HN2 := Lib.hid (HN1.out.trans hn2)
  have HC2 := Lib.hid (Kd.C_below HC1.out hn2.below)
  have hb2 := hn2.blk HB1.out
  have HB2 := Lib.hid hb2
  have x0 := blk_cell hb2 0 _ rfl
  have x1 := blk_cell hb2 1 _ rfl
  have x2 := blk_cell hb2 2 _ rfl
  clear hn2 hb2 HN1 HC1 HB1
  by_cases hz : cd = 0
  · obtain ⟨hg, hk0, hk1⟩ := codeI_zero (m := m) (k := k) (by rw [← HC.out]; exact hz)
    obtain ⟨kn, hkn⟩ : ∃ kn : Nat, k = kn := ⟨k.toNat, by omega⟩
    subst hkn
    have hc0 : codeI m kn = 0 := by rw [← HC.out]; exact hz
    have HC0 := Lib.hid hc0
    have hrl := call_RLevel w2 m0 m1 (.slice A0 m.rules.length c0) m (HM.out.new HN2.out) hg kn 250 (by omega) (by omega)
    obtain ⟨o, ho⟩ : ∃ o, o = rlevelR m kn 250 := ⟨_, rfl⟩
    rw [← ho] at hrl
    have HO := Lib.hid ho; have HRL := Lib.hid hrl
    subst hz
    clear hg hrl ho hc0 hk0 hk1
    go_wp2_with fail
    refine HRL.out.mono ?_
    rintro e w3 ⟨hn3, hcase⟩
    have HN3 := Lib.hid (HN2.out.trans hn3)
    have HC3 := Lib.hid (Kd.C_below HC2.out hn3.below)
    clear hn3 x0 x1 x2
    rcases hcase with ⟨hno, rfl⟩ | ⟨l, v, hso, rfl, hp⟩
    · have her2 : er = 0 ∨ er = 4 := by rw [HER.out, HR.out]; exact levelR_err HC0.out
      clear hno
      rcases her2 with rfl | rfl
      · go_wp2_with (go_at_call 12; refine (call_awake _).mono ?_; rintro e w5 ⟨rfl, hn5⟩; have HN5 := Lib.hid hn5; clear hn5)
        refine bodyPost_ret (v := .bool true) (by simp [results, Try.results3, go_sem]) rfl ?_
        exact ⟨rfl, HN3.out.trans HN5.out⟩
      · go_wp2_with (go_at_call 12; refine (call_awake _).mono ?_; rintro e w5 ⟨rfl, hn5⟩; have HN5 := Lib.hid hn5; clear hn5)
        refine bodyPost_ret (v := .bool true) (by simp [results, Try.results3, go_sem]) rfl ?_
        exact ⟨rfl, HN3.out.trans HN5.out⟩
    · obtain ⟨h1, h2, h250⟩ := levelR_of_some (m := m) (kn := kn) (mo := 250) HC0.out (by omega) (by rw [← HO.out]; exact hso)
      have her0 : er = 0 := by rw [HER.out, HR.out, h2]
      have hrl1 : r.1 = l := by rw [HR.out, h2, h1]
      rw [hrl1] at HL HC3
      have HLE := Lib.hid h1
      have hL250 : L ≤ 250 := by rw [HL.out]; exact h250
      obtain ⟨A5, c5, hv5, hc5, hC5⟩ := hp
      rw [← HL.out] at hv5
      have HC5 := Lib.hid hC5
      subst her0; subst hv5
      clear hso h1 h2 h250 hrl1 hc5 hC5
      go_wp2_with fail
      go_loopg [10] L (fun gk v10 wr => LwRel w3 L gk v10 wr)
      case atStart => exact ⟨0, rfl, by omega, New.refl _⟩
      case round =>
        obtain ⟨i, rfl, hi, hnew⟩ := hrel
        have HI := Lib.hid hi; have HW := Lib.hid hnew
        clear hi hnew
        by_cases hlt : i < L
        · obtain ⟨p, hp⟩ : ∃ p, p = l.getD i default := ⟨_, rfl⟩
          have hil : i < l.length := by have := HL.out; omega
          have hpl : p.cells.length ≤ 101 := by
            have hm : p ∈ levelL m kn := by rw [← HLE.out, hp, List.getD_eq_getElem?_getD, List.getElem?_eq_getElem hil]; exact List.getElem_mem _
            have := levelL_len kn p hm
            have := (codeI_zero HC0.out).2.2
            omega
          obtain ⟨ad1, B1, d1, e1, y0, y1, y2, hK1⟩ := pt_cells2 (Kd.C_below HC3.out HW.out.below) i hil
          obtain ⟨ad2, B2, d2, e2, z0, z1, z2, hK2⟩ := pt_cells2 (Kd.C_below HC5.out HW.out.below) i hil
          rw [← hp] at y0 y1 y2 z0 z1 z2 hK1 hK2
          have hsm := fun W (hW : New wr W) => call_Same W p p _ _ (kPt_below hK1 hW) (kPt_below hK2 hW) (by omega) (by omega)
          have HSM := Lib.hid hsm
          have hdec : decide (p = p) = true := by simp
          rw [hdec] at HSM
          subst e1; subst e2
          clear hp hil hpl hK1 hK2 hsm hdec
          go_upto_region 13 with fail
          go_cut [74] (fun s wx => s = .bool false ∧ New wr wx)
          case first =>
            go_region_held3 (fun w' => w'.cell? (ad1.add (i * 3)) = some (.int .i64 p.state) ∧ w'.cell? ⟨(ad1.add (i * 3)).block, (ad1.add (i * 3)).off + 1, none⟩ = some (.int .i64 p.head) ∧ w'.cell? ⟨(ad1.add (i * 3)).block, (ad1.add (i * 3)).off + 2, none⟩ = some (.slice B1 p.cells.length d1) ∧ w'.cell? (ad2.add (i * 3)) = some (.int .i64 p.state) ∧ w'.cell? ⟨(ad2.add (i * 3)).block, (ad2.add (i * 3)).off + 1, none⟩ = some (.int .i64 p.head) ∧ w'.cell? ⟨(ad2.add (i * 3)).block, (ad2.add (i * 3)).off + 2, none⟩ = some (.slice B2 p.cells.length d2) ∧ New wr w') (first | (refine nx_keep y0 y1 y2 z0 z1 z2 ?_; (repeat (first | assumption | with_reducible exact New.refl _ | refine New.drew ?_ | refine New.alloc ?_ _)); done)) (first | (go_at_call 14; refine (HSM.out _ ?_).mono ?_; (repeat (first | assumption | with_reducible exact New.refl _ | refine New.drew ?_ | refine New.alloc ?_ _)); rintro e w6 ⟨rfl, hn6⟩; have hn7 : New wr w6 := (by refine New.trans ?_ hn6; (repeat (first | assumption | with_reducible exact New.refl _ | refine New.drew ?_ | refine New.alloc ?_ _))); clear hn6))
            all_goals
              go_wp2
              go_meet
              exact ⟨rfl, by first | assumption | (refine New.trans ?_ (by assumption); assumption)⟩
          case rest =>
            obtain ⟨rfl, hnx⟩ := hcut
            have HNX := Lib.hid hnx
            clear hnx y0 y1 y2 z0 z1 z2
            go_wp2
            go_roundg (gk - 1)
            case measure => have := HI.out; omega
            case rel => exact ⟨i + 1, by go_num, by have := HI.out; omega, HW.out.trans HNX.out⟩
        · go_wp2_with (go_at_call 12; refine (call_awake _).mono ?_; rintro e w5 ⟨rfl, hn5⟩; have HN5 := Lib.hid hn5; clear hn5)
          refine bodyPost_ret (v := .bool true) (by simp [results, Try.results3, go_sem]) rfl ?_
          exact ⟨rfl, (HN3.out.trans HW.out).trans HN5.out⟩
  · have hd : (cd != 0) = true := by simpa using hz
    have hre : r = ([], cd) := by rw [HR.out, codeI_ne (by rw [← HC.out]; exact hz), ← HC.out]
    have h1 : er = cd := by rw [HER.out, hre]
    have h2 : L = 0 := by rw [HL.out, hre]; rfl
    have h3 : (cd == cd) = true := by simp
    subst h1; subst h2
    clear hz hre
    go_wp2_with (go_at_call 12; refine (call_awake _).mono ?_; rintro e w3 ⟨rfl, hn3⟩; have HN3 := Lib.hid hn3; clear hn3)
    refine bodyPost_ret (v := .bool true) (by simp [results, Try.results3, go_sem]) rfl ?_
    exact ⟨rfl, HN2.out.trans HN3.out⟩
end Go.Proofs.Ytgnhlaonckognaa
