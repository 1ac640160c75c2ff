/- BackEver walked: it answers true. Conditions: a machine in memory, any numbers. -/
import Derived.Test.YtgnhlaonckognaaGoWalk
import Derived.Test.YtgnhlaonckognaaAwake
namespace Go.Proofs.Ytgnhlaonckognaa
open Go.RowKit Go.Proofs.YtgnhlaonckognaaW.PrintWords
set_option linter.unusedVariables false
set_option linter.unusedSimpArgs false

theorem go_new {W W1 w' : World} (h : New W W1) (hc : Chg (fun k => W.heap.size ≤ k) W1 w') : New W w' := ⟨h.below.trans (hc.below h.size (fun k hk => hk))⟩
/-- A fresh run of n steps. -/
theorem call_goF (W W1 : World) (m0 m1 m2 : Value) (m : Mc) (hN : New W W1) (b : Nat) (h : RunM W1 W.heap.size b (fun k => W.heap.size ≤ k) m0 m1 m2 Rn.fresh) (hm : MachC W m0 m1 m2 m) (hg : m.Good) (n : Int) (hn : n ≤ 1000000) :
    Calls Try.prog 17 #[.pointer (some ⟨b, 0, none⟩), .int .i64 n] W1 fun e w' => e = .returned (.pointer (some ⟨b, 0, none⟩)) ∧ w'.cell? ⟨b, 3, none⟩ = some (.int .i64 (runC m n.toNat blank).state) ∧ New W w' := by
  refine (run_Go W1 W.heap.size b (fun k => W.heap.size ≤ k) m0 m1 m2 m Rn.fresh n 0 h (hm.new hN) hg (by rw [Rn.fresh_cf]; exact blank_ok hg) Rn.fresh_bd (by omega) (by omega) hN.size (fun k hk _ => hk) (fun _ w' hc => hm.new (go_new hN hc))).mono ?_
  rintro e w' ⟨rfl, hr, hc⟩
  refine ⟨rfl, ?_, go_new hN hc⟩
  rw [hr.steps.2.1]
  have e1 : (Rn.go m n.toNat Rn.fresh).state = ((Rn.go m n.toNat Rn.fresh).cf).state := rfl
  rw [e1, Rn.cf_go, Rn.fresh_cf]
theorem tm_le (a : Int) : a.tmod 20001 ≤ 1000000 := by
  have := Int.tmod_lt_of_pos a (show (0 : Int) < 20001 by decide)
  omega
theorem st_open {w : World} {a : Addr} {m : Mc} {X : Nat} (h : w.cell? a = some (.int .i64 (runC m X blank).state)) (hev : ∀ n, (runC m n blank).state ≠ -1) : ∃ st : Int, w.cell? a = some (.int .i64 st) ∧ (st != -1) = true :=
  ⟨_, h, by simpa using hev X⟩
theorem nextL_nil (m : Mc) : nextL m [] = [] := rfl
theorem check_ever {m : Mc} {k : Int} (h : checkR m k = (true, 0)) : m.Good ∧ 0 ≤ k ∧ k ≤ 100 ∧ levelR m (min (k + 1) 100) = ([], 0) ∧ ∀ n, (runC m n blank).state ≠ -1 := by
  have h0 : (levelR m k).2 = 0 := by
    unfold checkR at h
    split at h
    · simp at h
    · rename_i h1; simpa using h1
  obtain ⟨hg, hk0, hk1⟩ := levelR_ok h0
  obtain ⟨kn, rfl⟩ : ∃ kn : Nat, k = kn := ⟨k.toNat, by omega⟩
  have hl : levelR m kn = (levelL m kn, 0) ∧ ∀ j, j < kn → (levelL m (j + 1)).length ≤ 2000 := by
    unfold levelR at h0 ⊢
    rw [if_neg (by rw [Mc.good_iff.2 hg]; simp), if_neg (by omega)] at h0 ⊢
    split at h0
    · rename_i h1
      rw [if_pos h1]
      exact ⟨by simp, by simpa using h1⟩
    · simp at h0
  unfold checkR at h
  rw [hl.1] at h
  simp only [ne_eq, not_true_eq_false, if_false, Prod.mk.injEq, and_true, Bool.and_eq_true, decide_eq_true_eq, Int.toNat_natCast] at h
  refine ⟨hg, hk0, hk1, ?_, fun n => level_ever hg h.1 (by have := h.2; unfold stopsB at this; simpa using this) n⟩
  have hnx : levelL m (kn + 1) = [] := by
    show nextL m (levelL m kn) = []
    rw [h.1]; rfl
  by_cases e : (kn : Int) = 100
  · have e2 : min ((kn : Int) + 1) 100 = kn := by omega
    rw [e2, hl.1, h.1]
  · have e2 : min ((kn : Int) + 1) 100 = ((kn + 1 : Nat) : Int) := by omega
    rw [e2]
    unfold levelR
    rw [if_neg (by rw [Mc.good_iff.2 hg]; simp), if_neg (by omega), if_pos (fun j hj => ?_)]
    · rw [Int.toNat_natCast, hnx]
    · rw [Int.toNat_natCast] at hj
      by_cases e3 : j = kn
      · subst e3; rw [hnx]; simp
      · exact hl.2 j (by omega)

set_option maxHeartbeats 4000000 in
set_option maxRecDepth 100000 in
theorem call_BackEver (w : World) (m0 m1 m2 : Value) (m : Mc) (hm : MachC w m0 m1 m2 m) (hsz : m.Sz) (k : Int) (n : Int) :
    Calls Try.prog 4 #[.agg #[m0, m1, m2], .int .i64 k, .int .u16 n] w (NewB w true) := by
  have HM := Lib.hid hm
  have hck := fun W (hW : New w W) => call_Check W m0 m1 m2 m (hm.new hW) hsz k
  have hlv := fun W (hW : New w W) => call_Level W m0 m1 m2 m (hm.new hW) hsz (min (k + 1) 100)
  obtain ⟨ck, hc⟩ : ∃ ck, ck = checkR m k := ⟨_, rfl⟩
  rw [← hc] at hck
  have HCK := Lib.hid hck; have HLV := Lib.hid hlv; have HC := Lib.hid hc
  have hm2 : ∃ A c, m2 = .slice A m.rules.length c := by obtain ⟨_, _, A, c, e, _⟩ := hm; exact ⟨A, c, e⟩
  obtain ⟨A0, c0, hm2⟩ := hm2
  have hb0 := heap_alloc_new w (.cells #[m0, m1, m2] 24)
  have HB0 := Lib.hid hb0
  clear hm hsz hlv hck hc hb0
  subst hm2
  obtain ⟨b, er⟩ := ck
  go_enter Try.func4, Try.ntmps4
  go_wp2_with fail
  refine (HCK.out _ ((New.refl w).alloc _)).mono ?_
  rintro e w1 ⟨rfl, hn1⟩
  have HN1 := Lib.hid (((New.refl w).alloc _).trans hn1)
  have hb1 := hn1.blk HB0.out
  have HB1 := Lib.hid hb1
  have x0 := blk_cell hb1 0 _ rfl
  have x1 := blk_cell hb1 1 _ rfl
  have x2 := blk_cell hb1 2 _ rfl
  clear hn1 hb1 HB0
  by_cases hz : b = true ∧ er = 0
  · obtain ⟨hz1, hz2⟩ := hz
    obtain ⟨hg, hk0, hk1, hlr, hev⟩ := check_ever (m := m) (k := k) (by rw [← HC.out, hz1, hz2])
    rw [hlr] at HLV
    have HEV := Lib.hid hev; have HG := Lib.hid hg
    subst hz1; subst hz2
    clear hg hlr hev
    have hwr : IntKind.i64.wrap (k + 1) = k + 1 := by rw [IntKind.wrap_i64]; omega
    go_wp2_with (first
      | (go_at_call 10; refine (HLV.out _ HN1.out).mono ?_; rintro e w3 ⟨v3, rfl, hp3, hn3⟩; obtain ⟨A3, c3, hv3⟩ := hp3.shape; change v3 = .slice A3 0 c3 at hv3; subst hv3; have HN3 := Lib.hid (HN1.out.trans hn3); have HB3 := Lib.hid (hn3.blk HB1.out); clear x0 x1 x2; have x0 := blk_cell HB3.out 0 _ rfl; have x1 := blk_cell HB3.out 1 _ rfl; have x2 := blk_cell HB3.out 2 _ rfl; clear hp3 hn3)
      | (go_at_call 16; refine (run_Begin _ _ _ _).mono ?_; rintro e w6 ⟨bb, rfl, hb6, hrun, hn6⟩; have HRUN := Lib.hid hrun; have HN6 := Lib.hid hn6; clear hb6 hrun hn6)
      | (go_at_call 17; (refine (call_goF _ _ _ _ _ m HN6.out _ HRUN.out (HM.out.new HN3.out) HG.out _ (by first | exact tm_le _ | omega)).mono ?_; rintro e w7 ⟨rfl, hst0, hn7⟩; have HN7 := Lib.hid (HN3.out.trans hn7); obtain ⟨st, hst, hne⟩ := st_open hst0 HEV.out; clear x0 x1 x2 hn7 hst0))
      | (go_at_call 12; refine (call_awake _).mono ?_; rintro e w5 ⟨rfl, hn5⟩; have HN5 := Lib.hid hn5; clear hn5))
    refine bodyPost_ret (v := .bool true) (by simp [results, Try.results4, go_sem]) rfl ?_
    exact ⟨rfl, HN7.out.trans HN5.out⟩
  · cases b
    · go_wp2_with (go_at_call 12; refine (call_awake _).mono ?_; rintro e w5 ⟨rfl, hn5⟩; have HN5 := Lib.hid hn5; clear hn5)
      refine bodyPost_ret (v := .bool true) (by simp [results, Try.results4, go_sem]) rfl ?_
      exact ⟨rfl, HN1.out.trans HN5.out⟩
    · have hd : (er != 0) = true := by simpa using hz
      clear hz
      go_wp2_with (go_at_call 12; refine (call_awake _).mono ?_; rintro e w5 ⟨rfl, hn5⟩; have HN5 := Lib.hid hn5; clear hn5)
      refine bodyPost_ret (v := .bool true) (by simp [results, Try.results4, go_sem]) rfl ?_
      exact ⟨rfl, HN1.out.trans HN5.out⟩
end Go.Proofs.Ytgnhlaonckognaa
