/- back.Find walked. Conditions: a machine in memory, any number. -/
import Derived.Test.YtgnhlaonckognaaCheck
namespace Go.Proofs.Ytgnhlaonckognaa
open Go.RowKit Go.Proofs.YtgnhlaonckognaaW.PrintWords
set_option linter.unusedVariables false
set_option linter.unusedSimpArgs false

/-- What Find answers: the number and the error's number. -/
def findO : Option Nat → Int × Int
  | some n => (n, 0)
  | none => (0, 6)
def findR (m : Mc) (k : Int) : Int × Int := if m.ok = false then (0, 1) else if k < 0 ∨ 100 < k then (0, 2) else findO (findL m (k.toNat + 1) 0)
def FindPost (w : World) (r : Int × Int) (e : Ending) (w' : World) : Prop := e = .returned (.tuple #[.int .i64 r.1, .int .i64 r.2]) ∧ New w w'
def FindRel (w W0 : World) (m : Mc) (k : Nat) (gk : Nat) (v6 v7 : Value) (wr : World) : Prop :=
  ∃ i : Nat, v7 = .int .i64 i ∧ i + gk = k + 1 ∧ PtsM wr w.heap.size v6 (levelL m i) ∧ New W0 wr ∧ findL m gk i = findL m (k + 1) 0

set_option maxHeartbeats 4000000 in
set_option maxRecDepth 100000 in
theorem call_Find (w : World) (m0 m1 m2 : Value) (m : Mc) (hm : MachC w m0 m1 m2 m) (hsz : m.Sz) (k : Int) :
    Calls Try.prog 21 #[.agg #[m0, m1, m2], .int .i64 k] w (FindPost w (findR m k)) := by
  have HM := Lib.hid hm
  have hv := fun W (hW : New w W) => call_tapeValid W m0 m1 m2 m (hm.new hW) hsz.1 hsz.2
  have HV := Lib.hid hv
  have hm2 : ∃ A c, m2 = .slice A m.rules.length c := by obtain ⟨_, _, A, c, e, _⟩ := hm; exact ⟨A, c, e⟩
  obtain ⟨A0, c0, hm2⟩ := hm2
  have hb1 := heap_alloc_new w (.cells #[m0, m1, m2] 24)
  have HB1 := Lib.hid hb1
  clear hm hv hsz hb1
  subst hm2
  by_cases hok : m.ok = true
  · rw [hok] at HV
    by_cases hk : k < 0 ∨ 100 < k
    · have hR : findR m k = (0, 2) := by unfold findR; rw [if_neg (by simp [hok]), if_pos hk]
      rw [hR]
      clear hR hok
      rcases hk with hk | hk
      · have hkd1 : decide (k < 0) = true := by simpa using hk
        clear hk
        go_enter Try.func21, Try.ntmps21
        go_wp2_with (go_at_call 31; refine (HV.out _ ((New.refl w).alloc _)).mono ?_; rintro e w2 ⟨rfl, hn2⟩; have HN2 := Lib.hid hn2; clear hn2)
        refine bodyPost_ret (v := .tuple #[.int .i64 0, .int .i64 2]) (by simp [results, Try.results21, go_sem]) rfl ?_
        exact ⟨rfl, ((New.refl w).alloc _).trans HN2.out⟩
      · have hkd1 : decide (k < 0) = false := by simp; omega
        have hkd2 : decide (100 < k) = true := by simpa using hk
        clear hk
        go_enter Try.func21, Try.ntmps21
        go_wp2_with (go_at_call 31; refine (HV.out _ ((New.refl w).alloc _)).mono ?_; rintro e w2 ⟨rfl, hn2⟩; have HN2 := Lib.hid hn2; clear hn2)
        refine bodyPost_ret (v := .tuple #[.int .i64 0, .int .i64 2]) (by simp [results, Try.results21, go_sem]) rfl ?_
        exact ⟨rfl, ((New.refl w).alloc _).trans HN2.out⟩
    · have hg := Mc.good_iff.1 hok
      obtain ⟨kn, hkn⟩ : ∃ kn : Nat, k = kn := ⟨k.toNat, by omega⟩
      subst hkn
      have hR : findR m kn = findO (findL m (kn + 1) 0) := by unfold findR; rw [if_neg (by simp [hok]), if_neg hk, Int.toNat_natCast]
      rw [hR]
      have hk100 : kn ≤ 100 := by omega
      have HG := Lib.hid hg
      have hkd1 : decide ((kn : Int) < 0) = false := by simp
      have hkd2 : decide (100 < (kn : Int)) = false := by simp; omega
      clear hg hk hok hR
      have hfirst := fun W (hW : New w W) => call_first W m0 m1 (.slice A0 m.rules.length c0) m (HM.out.new hW) HG.out
      have HF := Lib.hid hfirst
      clear hfirst
      go_enter Try.func21, Try.ntmps21
      go_wp2_with (first
        | (go_at_call 31; refine (HV.out _ ((New.refl w).alloc _)).mono ?_; rintro e w2 ⟨rfl, hn2⟩; have HN2 := Lib.hid hn2; have c0' := blk_cell (hn2.blk HB1.out) 0 _ rfl; have c1' := blk_cell (hn2.blk HB1.out) 1 _ rfl; have c2' := blk_cell (hn2.blk HB1.out) 2 _ rfl; clear hn2)
        | (go_at_call 32; refine (HF.out _ (((New.refl w).alloc _).trans HN2.out)).mono ?_; rintro e w3 ⟨v3, rfl, hp3, hn3⟩; have HP3 := Lib.hid hp3; have HN3 := Lib.hid hn3; clear hp3 hn3 c0' c1' c2'))
      obtain ⟨W0, hW0⟩ : ∃ W0, W0 = w.alloc (.cells #[m0, m1, .slice A0 m.rules.length c0] 24) := ⟨_, rfl⟩
      have hw0 : New w W0 := by rw [hW0]; exact (New.refl w).alloc _
      rw [← hW0] at HN2 HB1
      have HW0 := Lib.hid hw0
      clear hW0 hw0
      go_loopg [6, 7] (kn + 1) (fun gk v6 v7 wr => FindRel w W0 m kn gk v6 v7 wr)
      case atStart => exact ⟨0, rfl, by omega, HP3.out.lower (HW0.out.trans HN2.out).size, HN2.out.trans HN3.out, rfl⟩
      case round =>
        obtain ⟨i, rfl, hi, hpts, hnew, hfd⟩ := hrel
        obtain ⟨A, c, he, hc, hC⟩ := Kd.R_reads hpts
        obtain ⟨n1, hn1⟩ : ∃ n1, n1 = (levelL m i).length := ⟨_, rfl⟩
        rw [← hn1] at he
        subst he
        have c0' := blk_cell (hnew.blk HB1.out) 0 _ rfl
        have c1' := blk_cell (hnew.blk HB1.out) 1 _ rfl
        have c2' := blk_cell (hnew.blk HB1.out) 2 _ rfl
        have HN := Lib.hid hnew; have HI := Lib.hid hi; have HN1 := Lib.hid hn1; have HFD := Lib.hid hfd; have HC := Lib.hid hC
        clear hnew hfd hn1 hpts hC hc
        by_cases hlt : i ≤ kn
        · have hle : decide ((i : Int) ≤ (kn : Int)) = true := by simp; omega
          obtain ⟨g, hgk⟩ : ∃ g, gk = g + 1 := ⟨gk - 1, by omega⟩
          subst hgk
          have hf1 : findL m (g + 1) i = if 2000 < (levelL m i).length then none else if levelL m i = [] then (if stopsB m i then none else some i) else findL m g (i + 1) := rfl
          rw [← HN1.out, HFD.out] at hf1
          have HF1 := Lib.hid hf1
          clear hf1 hi
          by_cases hbig : 2000 < n1
          · have hb2 : decide ((n1 : Int) ≤ 2000) = false := by simp; omega
            have HBG := Lib.hid hbig
            clear hbig
            go_wp2
            refine bodyPost_ret (v := .tuple #[.int .i64 0, .int .i64 6]) (by simp [results, Try.results21, go_sem]) rfl ?_
            refine ⟨?_, HW0.out.trans HN.out⟩
            rw [HF1.out, if_pos HBG.out]
            rfl
          · have hb2 : decide ((n1 : Int) ≤ 2000) = true := by simp; omega
            have HBG := Lib.hid hbig
            by_cases hz : n1 = 0
            · have hlv : levelL m i = [] := List.eq_nil_of_length_eq_zero (by rw [← HN1.out]; exact hz)
              have hst := call_stops wr m0 m1 (.slice A0 m.rules.length c0) m (HM.out.new (HW0.out.trans HN.out)) HG.out i (by omega)
              have HST := Lib.hid hst; have HLV := Lib.hid hlv
              obtain ⟨sb, hsb⟩ : ∃ sb, sb = stopsB m i := ⟨_, rfl⟩
              rw [← hsb] at HST HF1
              clear hst hlv hsb hbig
              subst hz
              cases sb
              · go_wp2_with (go_at_call 37; refine HST.out.mono ?_; rintro e w4 ⟨rfl, hn4⟩; have HN4 := Lib.hid hn4; clear hn4)
                refine bodyPost_ret (v := .tuple #[.int .i64 i, .int .i64 0]) (by simp [results, Try.results21, go_sem]) rfl ?_
                refine ⟨?_, (HW0.out.trans HN.out).trans HN4.out⟩
                rw [HF1.out, if_neg (by omega), if_pos HLV.out]
                rfl
              · go_wp2_with (go_at_call 37; refine HST.out.mono ?_; rintro e w4 ⟨rfl, hn4⟩; have HN4 := Lib.hid hn4; clear hn4)
                refine bodyPost_ret (v := .tuple #[.int .i64 0, .int .i64 6]) (by simp [results, Try.results21, go_sem]) rfl ?_
                refine ⟨?_, (HW0.out.trans HN.out).trans HN4.out⟩
                rw [HF1.out, if_neg (by omega), if_pos HLV.out]
                rfl
            · have hzb : ((n1 : Int) == 0) = false := by simp; omega
              have hne : levelL m i ≠ [] := fun h => hz (by rw [HN1.out, h]; rfl)
              have hnext := call_next wr m0 m1 (.slice A0 m.rules.length c0) m (HM.out.new (HW0.out.trans HN.out)) HG.out A c (levelL m i) (by rw [← HN1.out]; omega) HC.out (fun p hp => ⟨levelL_ok HG.out i p hp, by have := levelL_len i p hp; omega⟩)
              have hnl : nextL m (levelL m i) = levelL m (i + 1) := rfl
              rw [← HN1.out, hnl] at hnext
              have HNX := Lib.hid hnext; have HNE := Lib.hid hne
              clear hnext hne hnl hbig hz
              go_wp2_with (go_at_call 33; refine HNX.out.mono ?_; rintro e w4 ⟨v4, rfl, hp4, hn4⟩; have HP4 := Lib.hid hp4; have HN4 := Lib.hid hn4; clear hp4 hn4 c0' c1' c2')
              go_roundg g
              case measure => omega
              case rel =>
                refine ⟨i + 1, by go_num, by have := HI.out; omega, HP4.out.lower (HW0.out.trans HN.out).size, HN.out.trans HN4.out, ?_⟩
                rw [HF1.out, if_neg HBG.out, if_neg HNE.out]
        · have hle : decide ((i : Int) ≤ (kn : Int)) = false := by simp; omega
          have hg0 : gk = 0 := by omega
          subst hg0
          clear hi
          go_wp2
          refine bodyPost_ret (v := .tuple #[.int .i64 0, .int .i64 6]) (by simp [results, Try.results21, go_sem]) rfl ?_
          refine ⟨?_, HW0.out.trans HN.out⟩
          rw [← HFD.out]
          rfl
  · have hok' : m.ok = false := by simpa using hok
    have hR : findR m k = (0, 1) := by unfold findR; rw [if_pos hok']
    rw [hok'] at HV
    rw [hR]
    clear hR hok hok'
    go_enter Try.func21, Try.ntmps21
    go_wp2_with (go_at_call 31; refine (HV.out _ ((New.refl w).alloc _)).mono ?_; rintro e w2 ⟨rfl, hn2⟩; have HN2 := Lib.hid hn2; clear hn2)
    refine bodyPost_ret (v := .tuple #[.int .i64 0, .int .i64 1]) (by simp [results, Try.results21, go_sem]) rfl ?_
    exact ⟨rfl, ((New.refl w).alloc _).trans HN2.out⟩
end Go.Proofs.Ytgnhlaonckognaa
