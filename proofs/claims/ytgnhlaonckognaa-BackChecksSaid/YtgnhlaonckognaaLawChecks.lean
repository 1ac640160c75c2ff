/- BackChecks walked: it answers true. Conditions: a machine in memory, any number. -/
import Derived.Test.YtgnhlaonckognaaFind
import Derived.Test.YtgnhlaonckognaaProves
import Derived.Test.YtgnhlaonckognaaLawLevels
namespace Go.Proofs.Ytgnhlaonckognaa
open Go.RowKit Go.Proofs.YtgnhlaonckognaaW.PrintWords
set_option linter.unusedVariables false
set_option linter.unusedSimpArgs false

theorem chk_ne {m : Mc} {k : Int} (h : codeI m k ≠ 0) : checkR m k = (false, codeI m k) ∧ findR m k = (0, codeI m k) := by
  have h1 := codeI_ne h
  refine ⟨?_, ?_⟩
  · unfold checkR
    rw [h1, if_pos h]
  · unfold codeI at h ⊢
    unfold findR
    cases hk : m.ok
    · simp
    · rw [hk, if_pos rfl] at h
      by_cases h1 : k < 0
      · simp [h1]
      · by_cases h2 : k > 100
        · simp [h1, h2]
        · rw [if_neg h1, if_neg h2] at h
          exact absurd rfl h
theorem chk_some {m : Mc} {kn mo : Nat} (h : codeI m kn = 0) (hmo : mo ≤ 2000) {l : List Pt} (hl : rlevelR m kn mo = some l) : checkR m kn = (provesB m kn, 0) := by
  obtain ⟨_, h2, _⟩ := levelR_of_some h hmo hl
  unfold checkR
  rw [h2, if_neg (by simp), Int.toNat_natCast]
  rfl
theorem find_of_code {m : Mc} {kn : Nat} (h : codeI m kn = 0) : findR m kn = findO (findL m (kn + 1) 0) := by
  obtain ⟨hg, h0, h1⟩ := codeI_zero h
  unfold findR
  rw [if_neg (by rw [Mc.good_iff.2 hg]; simp), if_neg (by omega), Int.toNat_natCast]
def CkRel (w : World) (m : Mc) (k : Nat) (gk : Nat) (v10 : Value) (wr : World) : Prop :=
  ∃ i : Nat, v10 = .int .i64 i ∧ i + gk = k + 1 ∧ New w wr ∧ ∀ j, j < i → provesB m j = false ∧ (levelL m j).length ≤ 250

set_option maxHeartbeats 8000000 in
set_option maxRecDepth 100000 in
theorem call_BackChecks (w : World) (m0 m1 m2 : Value) (m : Mc) (hm : MachC w m0 m1 m2 m) (hsz : m.Sz) (k : Int) :
    Calls Try.prog 6 #[.agg #[m0, m1, m2], .int .i64 k] w (NewB w true) := by
  have HM := Lib.hid hm
  have hck := fun W (hW : New w W) => call_Check W m0 m1 m2 m (hm.new hW) hsz k
  have hfd := fun W (hW : New w W) => call_Find W m0 m1 m2 m (hm.new hW) hsz k
  have hcd := fun W (hW : New w W) => call_code W m0 m1 m2 m k (hm.new hW) hsz.1 hsz.2
  obtain ⟨ck, hc⟩ : ∃ ck, ck = checkR m k := ⟨_, rfl⟩
  obtain ⟨fr, hf⟩ : ∃ fr, fr = findR m k := ⟨_, rfl⟩
  obtain ⟨cd, hd⟩ : ∃ cd, cd = codeI m k := ⟨_, rfl⟩
  rw [← hc] at hck
  rw [← hf] at hfd
  rw [← hd] at hcd
  have HCK := Lib.hid hck; have HFD := Lib.hid hfd; have HCD := Lib.hid hcd
  have HC := Lib.hid hc; have HF := Lib.hid hf; have HD := Lib.hid hd
  have hm2 : ∃ A c, m2 = .slice A m.rules.length c := by obtain ⟨_, _, A, c, e, _⟩ := hm; exact ⟨A, c, e⟩
  obtain ⟨A0, c0, hm2⟩ := hm2
  have hb0 := heap_alloc_new w (.cells #[m0, m1, m2] 24)
  have HB0 := Lib.hid hb0
  clear hm hsz hck hfd hcd hc hf hd hb0
  subst hm2
  obtain ⟨b, er⟩ := ck
  obtain ⟨fn, fe⟩ := fr
  go_enter Try.func6, Try.ntmps6
  go_wp2_with (first
    | (go_at_call 15; refine (HCK.out _ ((New.refl w).alloc _)).mono ?_; rintro e w1 ⟨rfl, hn1⟩; have HN1 := Lib.hid (((New.refl w).alloc _).trans hn1); have HB1 := Lib.hid (hn1.blk HB0.out); have x0 := blk_cell HB1.out 0 _ rfl; have x1 := blk_cell HB1.out 1 _ rfl; have x2 := blk_cell HB1.out 2 _ rfl; clear hn1)
    | (go_at_call 21; refine (HFD.out _ HN1.out).mono ?_; rintro e w2 ⟨rfl, hn2⟩; have HN2 := Lib.hid (HN1.out.trans hn2); have HB2 := Lib.hid (hn2.blk HB1.out); clear x0 x1 x2; have x0 := blk_cell HB2.out 0 _ rfl; have x1 := blk_cell HB2.out 1 _ rfl; have x2 := blk_cell HB2.out 2 _ rfl; clear hn2)
    | fail)
  refine (HCD.out _ HN2.out).mono ?_
  rintro e w3 ⟨rfl, hn3⟩
  have HN3 := Lib.hid (HN2.out.trans hn3)
  have HB3 := Lib.hid (hn3.blk HB2.out)
  clear x0 x1 x2 hn3 HB1 HB2 HB0
  by_cases hz : cd = 0
  · obtain ⟨hg, hk0, hk1⟩ := codeI_zero (m := m) (k := k) (by rw [← HD.out]; exact hz)
    obtain ⟨kn, hkn⟩ : ∃ kn : Nat, k = kn := ⟨k.toNat, by omega⟩
    subst hkn
    have hc0 : codeI m kn = 0 := by rw [← HD.out]; exact hz
    have HC0 := Lib.hid hc0
    have hpv := fun W (hW : New w W) (i : Nat) (hi : i ≤ kn) => call_Proves W m0 m1 (.slice A0 m.rules.length c0) m (HM.out.new hW) hg i 250 (by omega) (by omega)
    have HPV := Lib.hid hpv
    subst hz
    clear hg hpv hc0
    go_wp2_with fail
    go_loopg [10, 11, 12, 13, 14] (kn + 1) (fun gk v10 v11 v12 v13 v14 wr => CkRel w3 m kn gk v10 wr)
    case atStart => exact ⟨0, rfl, by omega, New.refl _, fun j hj => absurd hj (by omega)⟩
    case round =>
      obtain ⟨i, rfl, hi, hnew, hall⟩ := hrel
      have hbm := hnew.blk HB3.out
      have x0 := blk_cell hbm 0 _ rfl
      have x1 := blk_cell hbm 1 _ rfl
      have x2 := blk_cell hbm 2 _ rfl
      have HI := Lib.hid hi; have HW := Lib.hid (HN3.out.trans hnew); have HW3 := Lib.hid hnew; have HA := Lib.hid hall; have HBM := Lib.hid hbm
      clear hi hnew hall hbm
      by_cases hlt : i ≤ kn
      · have hle : decide ((i : Int) ≤ (kn : Int)) = true := by simp; omega
        obtain ⟨rp, hrp⟩ : ∃ rp, rp = rprovesR m i 250 := ⟨_, rfl⟩
        have hp := HPV.out wr HW.out i hlt
        rw [← hrp] at hp
        cases hrl : rlevelR m i 250 with
        | none =>
          have hrp2 : rp = (false, false) := by rw [hrp]; unfold rprovesR; rw [hrl]; rfl
          rw [hrp2] at hp
          have HP := Lib.hid hp
          clear hp hrp hrp2 hrl
          go_wp2_with (first
            | (go_at_call 22; refine HP.out.mono ?_; rintro e w4 ⟨rfl, hn4⟩; have HN4 := Lib.hid hn4; clear hn4)
            | (go_at_call 12; refine (call_awake _).mono ?_; rintro e w5 ⟨rfl, hn5⟩; have HN5 := Lib.hid hn5; clear hn5))
          refine bodyPost_ret (v := .bool true) (by simp [results, Try.results6, go_sem]) rfl ?_
          exact ⟨rfl, (HW.out.trans HN4.out).trans HN5.out⟩
        | some l =>
          have hrp2 : rp = (provesB m i, true) := by rw [hrp]; unfold rprovesR; rw [hrl]; rfl
          rw [hrp2] at hp
          obtain ⟨_, hlen⟩ := rlevelR_some hrl
          have HLEN := Lib.hid hlen
          clear hrp hrp2 hrl hlen
          cases hpi : provesB m i with
          | false =>
            rw [hpi] at hp
            have HP := Lib.hid hp; have HPI := Lib.hid hpi
            clear hp hpi
            go_wp2_with (go_at_call 22; refine HP.out.mono ?_; rintro e w4 ⟨rfl, hn4⟩; have HN4 := Lib.hid hn4; clear hn4 x0 x1 x2)
            go_roundg (gk - 1)
            case measure => have := HI.out; omega
            case rel => exact ⟨i + 1, by go_num, by have := HI.out; omega, HW3.out.trans HN4.out, fun j hj => by
              by_cases e : j = i
              · subst e; exact ⟨HPI.out, HLEN.out _ (Nat.le_refl _)⟩
              · exact HA.out j (by omega)⟩
          | true =>
            rw [hpi] at hp
            have hfr : findR m kn = ((i : Int), 0) := by
              rw [find_of_code HC0.out, findL_some hpi (fun j hj => (HA.out j hj).1) (fun j hj => by have := HLEN.out j hj; omega) (kn + 1) 0 (by omega) (by omega)]
              rfl
            have hfr2 := HF.out
            rw [hfr] at hfr2
            injection hfr2 with hfn hfe
            have HP := Lib.hid hp
            subst hfn; subst hfe
            clear hp hpi hfr
            have hp2 := fun W (hW : New w W) => HPV.out W hW kn (Nat.le_refl _)
            cases hrl2 : rlevelR m kn 250 with
            | none =>
              have hrp2 : rprovesR m kn 250 = (false, false) := by unfold rprovesR; rw [hrl2]; rfl
              rw [hrp2] at hp2
              have HP2 := Lib.hid hp2
              clear hp2 hrp2 hrl2
              go_wp2_with (first
                | (go_at_call 22; refine (HP2.out _ (HW.out.trans HN4.out)).mono ?_; rintro e w6 ⟨rfl, hn6⟩; have HN6 := Lib.hid hn6; clear hn6)
                | (go_at_call 22; refine HP.out.mono ?_; rintro e w4 ⟨rfl, hn4⟩; have HN4 := Lib.hid hn4; have HB4 := Lib.hid (hn4.blk HBM.out); clear hn4 x0 x1 x2; have x0 := blk_cell HB4.out 0 _ rfl; have x1 := blk_cell HB4.out 1 _ rfl; have x2 := blk_cell HB4.out 2 _ rfl)
                | (go_at_call 12; refine (call_awake _).mono ?_; rintro e w5 ⟨rfl, hn5⟩; have HN5 := Lib.hid hn5; clear hn5))
              refine bodyPost_ret (v := .bool true) (by simp [results, Try.results6, go_sem]) rfl ?_
              exact ⟨rfl, ((HW.out.trans HN4.out).trans HN6.out).trans HN5.out⟩
            | some l2 =>
              have hrp2 : rprovesR m kn 250 = (provesB m kn, true) := by unfold rprovesR; rw [hrl2]; rfl
              have hcr := chk_some HC0.out (by omega) hrl2
              have hcr2 := HC.out
              rw [hcr] at hcr2
              injection hcr2 with hcb hce
              rw [hrp2, ← hcb] at hp2
              have HP2 := Lib.hid hp2; have HCB := Lib.hid hcb
              subst hce
              clear hp2 hrp2 hrl2 hcr hcb
              cases b <;>
              · go_wp2_with (first
                  | (go_at_call 22; refine (HP2.out _ (HW.out.trans HN4.out)).mono ?_; rintro e w6 ⟨rfl, hn6⟩; have HN6 := Lib.hid hn6; clear hn6)
                  | (go_at_call 22; refine HP.out.mono ?_; rintro e w4 ⟨rfl, hn4⟩; have HN4 := Lib.hid hn4; have HB4 := Lib.hid (hn4.blk HBM.out); clear hn4 x0 x1 x2; have x0 := blk_cell HB4.out 0 _ rfl; have x1 := blk_cell HB4.out 1 _ rfl; have x2 := blk_cell HB4.out 2 _ rfl)
                  | (go_at_call 12; refine (call_awake _).mono ?_; rintro e w5 ⟨rfl, hn5⟩; have HN5 := Lib.hid hn5; clear hn5))
                refine bodyPost_ret (v := .bool true) (by simp [results, Try.results6, go_sem]) rfl ?_
                exact ⟨rfl, ((HW.out.trans HN4.out).trans HN6.out).trans HN5.out⟩
      · have hle : decide ((i : Int) ≤ (kn : Int)) = false := by simp; omega
        have hik : i = kn + 1 := by have := HI.out; omega
        have hfr : findR m kn = (0, 6) := by
          rw [find_of_code HC0.out, findL_none (kn + 1) 0 (fun j _ hj => (HA.out j (by omega)).1)]
          rfl
        have hcr : checkR m kn = (false, 0) := by
          have hs : rlevelR m kn 250 = some (levelL m kn) := by
            unfold rlevelR
            rw [if_pos (fun j hj => (HA.out j (by omega)).2)]
          rw [chk_some HC0.out (by omega) hs, (HA.out kn (by omega)).1]
        have hfr2 := HF.out
        have hcr2 := HC.out
        rw [hfr] at hfr2
        rw [hcr] at hcr2
        injection hfr2 with hfn hfe
        injection hcr2 with hcb hce
        subst hfn; subst hfe; subst hcb; subst hce
        clear hfr hcr hik
        go_wp2_with (go_at_call 12; refine (call_awake _).mono ?_; rintro e w5 ⟨rfl, hn5⟩; have HN5 := Lib.hid hn5; clear hn5)
        refine bodyPost_ret (v := .bool true) (by simp [results, Try.results6, go_sem]) rfl ?_
        exact ⟨rfl, HW.out.trans HN5.out⟩
  · have hcd : (cd != 0) = true := by simpa using hz
    obtain ⟨h1, h2⟩ := chk_ne (m := m) (k := k) (by rw [← HD.out]; exact hz)
    rw [← HC.out, ← HD.out] at h1
    rw [← HF.out, ← HD.out] at h2
    injection h1 with hb1 he1
    injection h2 with hf1 hf2
    subst hb1; subst he1; subst hf1; subst hf2
    clear hz
    go_wp2_with (go_at_call 12; refine (call_awake _).mono ?_; rintro e w5 ⟨rfl, hn5⟩; have HN5 := Lib.hid hn5; clear hn5)
    refine bodyPost_ret (v := .bool true) (by simp [results, Try.results6, go_sem]) rfl ?_
    exact ⟨rfl, HN3.out.trans HN5.out⟩
end Go.Proofs.Ytgnhlaonckognaa
