/- The reference's Proves walked. Conditions: a right machine, at most 100 levels, at most 2000 elements a level. -/
import Derived.Test.YtgnhlaonckognaaLawEver
import Derived.Test.YtgnhlaonckognaaRLevel
namespace Go.Proofs.Ytgnhlaonckognaa
open Go.RowKit Go.Proofs.YtgnhlaonckognaaW.PrintWords
set_option linter.unusedVariables false
set_option linter.unusedSimpArgs false

/-- What Proves answers. -/
def provO (b : Bool) : Option (List Pt) → Bool × Bool
  | none => (false, false)
  | some _ => (b, true)
def rprovesR (m : Mc) (k mo : Nat) : Bool × Bool := provO (provesB m k) (rlevelR m k mo)
def BBPost (w : World) (a b : Bool) (e : Ending) (w' : World) : Prop := e = .returned (.tuple #[.bool a, .bool b]) ∧ New w w'
theorem rlevelR_some {m : Mc} {k mo : Nat} {l : List Pt} (h : rlevelR m k mo = some l) : l = levelL m k ∧ ∀ j, j ≤ k → (levelL m j).length ≤ mo := by
  unfold rlevelR at h
  split at h
  · rename_i hs
    injection h with h
    exact ⟨h.symm, hs⟩
  · simp at h

set_option maxHeartbeats 4000000 in
set_option maxRecDepth 100000 in
theorem call_Proves (w : World) (m0 m1 m2 : Value) (m : Mc) (hm : MachC w m0 m1 m2 m) (hg : m.Good) (k mo : Nat) (hk : k ≤ 100) (hmo : mo ≤ 2000) :
    Calls Try.prog 22 #[.agg #[m0, m1, m2], .int .i64 k, .int .i64 mo] w (BBPost w (rprovesR m k mo).1 (rprovesR m k mo).2) := by
  have HM := Lib.hid hm; have HG := Lib.hid hg
  have hlv := fun W (hW : New w W) => call_RLevel W m0 m1 m2 m (hm.new hW) hg k mo hk hmo
  obtain ⟨o, ho⟩ : ∃ o, o = rlevelR m k mo := ⟨_, rfl⟩
  rw [← ho] at hlv
  obtain ⟨rp, hrp⟩ : ∃ rp, rp = rprovesR m k mo := ⟨_, rfl⟩
  have hrp2 : rp = provO (provesB m k) o := by rw [hrp, ho]; rfl
  rw [← hrp]
  have HLV := Lib.hid hlv; have HRP := Lib.hid hrp2; have HO := Lib.hid ho
  have hm2 : ∃ A c, m2 = .slice A m.rules.length c := by obtain ⟨_, _, A, c, e, _⟩ := hm; exact ⟨A, c, e⟩
  obtain ⟨A0, c0, hm2⟩ := hm2
  have hb0 := heap_alloc_new w (.cells #[m0, m1, m2] 24)
  have HB0 := Lib.hid hb0
  clear hm hg hlv hrp hrp2 ho hb0
  subst hm2
  go_enter Try.func22, Try.ntmps22
  go_wp2_with fail
  refine (HLV.out _ ((New.refl w).alloc _)).mono ?_
  rintro e w1 ⟨hn1, hcase⟩
  have HN1 := Lib.hid (((New.refl w).alloc _).trans hn1)
  have hb1 := hn1.blk HB0.out
  have x0 := blk_cell hb1 0 _ rfl
  have x1 := blk_cell hb1 1 _ rfl
  have x2 := blk_cell hb1 2 _ rfl
  clear hn1 hb1 HB0
  rcases hcase with ⟨hno, rfl⟩ | ⟨l, v, hso, rfl, hp⟩
  · have HNO := Lib.hid hno
    clear hno
    go_wp2
    refine bodyPost_ret (v := .tuple #[.bool false, .bool false]) (by simp [results, Try.results22, go_sem]) rfl ?_
    refine ⟨?_, HN1.out⟩
    rw [HRP.out, HNO.out]
    rfl
  · obtain ⟨h1, h2⟩ := rlevelR_some (m := m) (k := k) (mo := mo) (by rw [← HO.out]; exact hso)
    obtain ⟨A5, c5, hv5, hc5, hC5⟩ := hp
    obtain ⟨L, hL⟩ : ∃ L, L = l.length := ⟨_, rfl⟩
    rw [← hL] at hv5
    subst hv5
    have hrp3 : rp = (decide (L = 0) && !stopsB m k, true) := by
      rw [HRP.out, hso, hL, h1]
      show (provesB m k, true) = _
      unfold provesB
      congr 2
      simp [List.length_eq_zero_iff]
    have HRP3 := Lib.hid hrp3
    clear hrp3 hso h1 h2 hc5 hC5 hL
    by_cases hz : L = 0
    · have hs : ∀ st, st = (runC m k blank).state → (!stopsB m k) = (st != -1) := by
        intro st h
        unfold stopsB
        rw [← h]
        by_cases e : st = -1 <;> simp [e]
      have HS := Lib.hid hs
      subst hz
      clear hs
      go_wp2_with (first
        | (go_at_call 16; refine (run_Begin _ _ _ _).mono ?_; rintro e w6 ⟨bb, rfl, hb6, hrun, hn6⟩; have HRUN := Lib.hid hrun; have HN6 := Lib.hid hn6; clear hb6 hrun hn6)
        | (go_at_call 17; refine (call_goF _ _ _ _ _ m HN6.out _ HRUN.out (HM.out.new HN1.out) HG.out (k : Int) (by omega)).mono ?_; rintro e w7 ⟨rfl, hst, hn7⟩; have HN7 := Lib.hid (HN1.out.trans hn7); clear x0 x1 x2 hn7; rw [Int.toNat_natCast] at hst; obtain ⟨st, hsv⟩ : ∃ st, st = (runC m k blank).state := ⟨_, rfl⟩; rw [← hsv] at hst; have HSV := Lib.hid hsv; clear hsv))
      refine bodyPost_ret (v := .tuple #[.bool (st != -1), .bool true]) (by simp [results, Try.results22, go_sem]) rfl ?_
      refine ⟨?_, HN7.out⟩
      rw [HRP3.out, HS.out st HSV.out]
      simp
    · have hzb : ((L : Int) == 0) = false := by simp; omega
      have HZ := Lib.hid hz
      clear hz
      go_wp2
      refine bodyPost_ret (v := .tuple #[.bool false, .bool true]) (by simp [results, Try.results22, go_sem]) rfl ?_
      refine ⟨?_, HN1.out⟩
      rw [HRP3.out, decide_eq_false HZ.out]
      rfl
end Go.Proofs.Ytgnhlaonckognaa
