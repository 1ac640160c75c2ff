/- back.Level walked, joined. Conditions: a machine in memory, any number. -/
import Derived.Test.YtgnhlaonckognaaLevA
namespace Go.Proofs.Ytgnhlaonckognaa
open Go.RowKit Go.Proofs.YtgnhlaonckognaaW.PrintWords
set_option linter.unusedVariables false
set_option linter.unusedSimpArgs false

set_option maxHeartbeats 4000000 in
set_option maxRecDepth 100000 in
theorem call_Level (w : World) (m0 m1 m2 : Value) (m : Mc) (hm : MachC w m0 m1 m2 m) (hsz : m.Sz) (k : Int) :
    Calls Try.prog 10 #[.agg #[m0, m1, m2], .int .i64 k] w (LevelPost w (levelR m k)) := by
  have HM := Lib.hid hm
  have hv := fun W (hW : New w W) => call_tapeValid W m0 m1 m2 m (hm.new hW) hsz.1 hsz.2
  have HV := Lib.hid hv
  have hm2 : ∃ A c, m2 = .slice A m.rules.length c := by obtain ⟨_, _, A, c, e, _⟩ := hm; exact ⟨A, c, e⟩
  obtain ⟨A0, c0, hm2⟩ := hm2
  have hb1 := heap_alloc_new w (.cells #[m0, m1, m2] 24)
  have HB1 := Lib.hid hb1
  clear hm hv hsz hb1
  subst hm2
  by_cases hok : m.ok = true
  · by_cases hk : k < 0 ∨ 100 < k
    · have hR : levelR m k = ([], 2) := by unfold levelR; rw [if_neg (by simp [hok]), if_pos hk]
      rw [hok] at HV
      rw [hR]
      clear hR hok
      exact call_Level_arg w m0 m1 A0 m.rules.length c0 k HV.out hk
    · have hg := Mc.good_iff.1 hok
      obtain ⟨kn, hkn⟩ : ∃ kn : Nat, k = kn := ⟨k.toNat, by omega⟩
      subst hkn
      have hk100 : kn ≤ 100 := by omega
      have HG := Lib.hid hg; have HK := Lib.hid hk; have HOK := Lib.hid hok
      have hkd1 : decide ((kn : Int) < 0) = false := by simp
      have hkd2 : decide (100 < (kn : Int)) = false := by simp; omega
      rw [hok] at HV
      clear hg hk hok
      have hfirst := fun W (hW : New w W) => call_first W m0 m1 (.slice A0 m.rules.length c0) m (HM.out.new hW) HG.out
      have HF := Lib.hid hfirst
      clear hfirst
      go_enter Try.func10, Try.ntmps10
      go_wp2_with (first
        | (go_at_call 31; refine (HV.out _ ((New.refl w).alloc _)).mono ?_; rintro e w2 ⟨rfl, hn2⟩; have HN2 := Lib.hid hn2; have c0' := blk_cell (hn2.blk HB1.out) 0 _ rfl; have c1' := blk_cell (hn2.blk HB1.out) 1 _ rfl; have c2' := blk_cell (hn2.blk HB1.out) 2 _ rfl; clear hn2)
        | (go_at_call 32; refine (HF.out _ (((New.refl w).alloc _).trans HN2.out)).mono ?_; rintro e w3 ⟨v3, rfl, hp3, hn3⟩; have HP3 := Lib.hid hp3; have HN3 := Lib.hid hn3; clear hp3 hn3 c0' c1' c2'))
      obtain ⟨W0, hW0⟩ : ∃ W0, W0 = w.alloc (.cells #[m0, m1, .slice A0 m.rules.length c0] 24) := ⟨_, rfl⟩
      have hw0 : New w W0 := by rw [hW0]; exact (New.refl w).alloc _
      rw [← hW0] at HN2 HB1
      have HW0 := Lib.hid hw0
      clear hW0 hw0
      go_loopg [6, 19] kn (fun gk v6 v19 wr => LevelRel w W0 m kn gk v6 v19 wr)
      case atStart => exact ⟨0, rfl, by omega, HP3.out.lower (HW0.out.trans HN2.out).size, HN2.out.trans HN3.out, Nat.le_trans (firstL_length HG.out) (by decide), fun j hj => absurd hj (by omega)⟩
      case round =>
        obtain ⟨i, rfl, hi, hpts, hnew, hlen, hall⟩ := hrel
        by_cases hlt : i < kn
        · obtain ⟨A, c, he, hc, hC⟩ := Kd.R_reads hpts
          subst he
          have hnext := fun W (hW : New wr W) => call_next W m0 m1 (.slice A0 m.rules.length c0) m (HM.out.new ((HW0.out.trans hnew).trans hW)) HG.out A c (levelL m i) hlen (Kd.C_below hC hW.below) (fun p hp => ⟨levelL_ok HG.out i p hp, by have := levelL_len i p hp; omega⟩)
          have c0' := blk_cell (hnew.blk HB1.out) 0 _ rfl
          have c1' := blk_cell (hnew.blk HB1.out) 1 _ rfl
          have c2' := blk_cell (hnew.blk HB1.out) 2 _ rfl
          have HN := Lib.hid hnew; have HA := Lib.hid hall; have HI := Lib.hid hi; have HNX := Lib.hid hnext
          have hnl : nextL m (levelL m i) = levelL m (i + 1) := rfl
          have HNL := Lib.hid hnl
          clear hnew hall hi hnext hpts hlen hC hnl
          generalize (levelL m i).length = n1 at *
          by_cases hbig : 2000 < (levelL m (i + 1)).length
          · have HBG := Lib.hid hbig
            obtain ⟨n2, hn2⟩ : ∃ n2, n2 = (levelL m (i + 1)).length := ⟨_, rfl⟩
            have hb2 : decide ((2000 : Int) < (n2 : Int)) = true := by simp; omega
            have HN2' := Lib.hid hn2
            clear hbig hn2
            go_wp2_with (go_at_call 33; refine (HNX.out _ (New.refl _)).mono ?_; rintro e w4 ⟨v4, rfl, hp4, hn4⟩; rw [HNL.out] at hp4; obtain ⟨A4, c4, hv4⟩ := hp4.shape; rw [← HN2'.out] at hv4; subst hv4; have HP4 := Lib.hid hp4; have HN4 := Lib.hid hn4; clear hp4 hn4 c0' c1' c2')
            refine bodyPost_ret (v := .tuple #[.slice none 0 0, .int .i64 4]) (by simp [results, Try.results10, go_sem]) rfl ?_
            have hR : levelR m kn = ([], 4) := by
              unfold levelR
              rw [if_neg (by simp [HOK.out]), if_neg HK.out, if_neg (fun h => by have := h i (by omega); have := HBG.out; omega)]
            rw [hR]
            exact ⟨_, rfl, PtsM.nil _ _, (HW0.out.trans HN.out).trans HN4.out⟩
          · have HBG := Lib.hid hbig
            obtain ⟨n2, hn2⟩ : ∃ n2, n2 = (levelL m (i + 1)).length := ⟨_, rfl⟩
            have hb2 : decide ((2000 : Int) < (n2 : Int)) = false := by simp; omega
            have HN2' := Lib.hid hn2
            clear hbig hn2
            go_wp2_with (go_at_call 33; refine (HNX.out _ (New.refl _)).mono ?_; rintro e w4 ⟨v4, rfl, hp4, hn4⟩; rw [HNL.out] at hp4; obtain ⟨A4, c4, hv4⟩ := hp4.shape; rw [← HN2'.out] at hv4; subst hv4; have HP4 := Lib.hid hp4; have HN4 := Lib.hid hn4; clear hp4 hn4 c0' c1' c2')
            go_roundg (gk - 1)
            case measure => have := HI.out; omega
            case rel => exact ⟨i + 1, by go_num, by have := HI.out; omega, HP4.out.lower (HW0.out.trans HN.out).size, HN.out.trans HN4.out, by have := HBG.out; omega, fun j hj => by
              by_cases e : j = i
              · subst e; have := HBG.out; omega
              · exact HA.out j (by omega)⟩
        · have hik : i = kn := by omega
          subst hik
          have HP := Lib.hid hpts; have HN := Lib.hid hnew; have HA := Lib.hid hall
          clear hpts hnew hall hlen hi
          obtain ⟨A6, c6, hv6⟩ := HP.out.shape
          subst hv6
          go_wp2
          refine bodyPost_ret (v := .tuple #[.slice A6 (levelL m i).length c6, .int .i64 0]) (by simp [results, Try.results10, go_sem]) rfl ?_
          have hR : levelR m i = (levelL m i, 0) := by
            unfold levelR
            rw [if_neg (by simp [HOK.out]), if_neg HK.out, if_pos (by simpa using HA.out)]
            simp
          rw [hR]
          exact ⟨_, rfl, HP.out, HW0.out.trans HN.out⟩
  · have hok' : m.ok = false := by simpa using hok
    have hR : levelR m k = ([], 1) := by unfold levelR; rw [if_pos hok']
    rw [hok'] at HV
    rw [hR]
    exact call_Level_form w m0 m1 A0 m.rules.length c0 k HV.out
end Go.Proofs.Ytgnhlaonckognaa
