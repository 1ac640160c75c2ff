/- back.stops, Check, Find walked. Conditions: a machine in memory, any number. -/
import Derived.Test.YtgnhlaonckognaaTapeRunC
import Derived.Test.YtgnhlaonckognaaLevel
namespace Go.Proofs.Ytgnhlaonckognaa
open Go.RowKit Go.Proofs.YtgnhlaonckognaaW.PrintWords
set_option linter.unusedVariables false
set_option linter.unusedSimpArgs false

set_option maxHeartbeats 2000000 in
set_option maxRecDepth 100000 in
theorem call_stops (w : World) (m0 m1 m2 : Value) (m : Mc) (hm : MachC w m0 m1 m2 m) (hg : m.Good) (n : Nat) (hn : n ≤ 49000) :
    Calls Try.prog 37 #[.agg #[m0, m1, m2], .int .i64 n] w (NewB w (stopsB m n)) := by
  have hrun := fun W (hW : New w W) => call_Run0 W m0 m1 m2 m (hm.new hW) hg n (by omega)
  have HRUN := Lib.hid hrun
  have hm2 : ∃ A c, m2 = .slice A m.rules.length c := by obtain ⟨_, _, A, c, e, _⟩ := hm; exact ⟨A, c, e⟩
  obtain ⟨A0, c0, hm2⟩ := hm2
  clear hrun hm hg
  subst hm2
  obtain ⟨st9, hst9⟩ : ∃ s, s = (runC m n blank).state := ⟨_, rfl⟩
  have hsb : stopsB m n = decide (st9 = -1) := by unfold stopsB; rw [hst9]
  rw [hsb]
  have HST9 := Lib.hid hst9
  clear hsb hst9
  go_enter Try.func37, Try.ntmps37
  go_wp2_with fail
  refine (HRUN.out _ ((New.refl w).alloc _)).mono ?_
  rintro e w2 ⟨hn2, st, pos, fr, A, L, c, steps, er, rfl, hcase⟩
  have hst : st = st9 := by
    rcases hcase with ⟨_, _, h⟩ | ⟨_, h⟩
    · omega
    · rw [h, HST9.out]
  subst hst
  have HN2 := Lib.hid hn2
  clear hcase hn2
  by_cases hs : st = -1
  · have hd : (st == -1) = true := by simpa using hs
    have hd2 : decide (st = -1) = true := by simpa using hs
    have HD2 := Lib.hid hd2
    clear hs hd2
    go_wp2
    go_ret
    exact ⟨by rw [HD2.out]; rfl, (((New.refl w).alloc _).trans HN2.out).alloc _⟩
  · have hd : (st == -1) = false := by simpa using hs
    have hd2 : decide (st = -1) = false := by simpa using hs
    have HD2 := Lib.hid hd2
    clear hs hd2
    go_wp2
    go_ret
    exact ⟨by rw [HD2.out]; rfl, (((New.refl w).alloc _).trans HN2.out).alloc _⟩

/-- What Check answers. -/
def checkR (m : Mc) (k : Int) : Bool × Int := if (levelR m k).2 ≠ 0 then (false, (levelR m k).2) else (decide ((levelR m k).1 = []) && !stopsB m k.toNat, 0)
theorem levelR_ok {m : Mc} {k : Int} (h : (levelR m k).2 = 0) : m.Good ∧ 0 ≤ k ∧ k ≤ 100 := by
  unfold levelR at h
  split at h
  · simp at h
  · rename_i h1
    split at h
    · simp at h
    · rename_i h2
      exact ⟨Mc.good_iff.1 (by simpa using h1), by omega, by omega⟩
def CheckPost (w : World) (b : Bool) (er : Int) (e : Ending) (w' : World) : Prop := e = .returned (.tuple #[.bool b, .int .i64 er]) ∧ New w w'

set_option maxHeartbeats 4000000 in
set_option maxRecDepth 100000 in
theorem call_Check (w : World) (m0 m1 m2 : Value) (m : Mc) (hm : MachC w m0 m1 m2 m) (hsz : m.Sz) (k : Int) :
    Calls Try.prog 15 #[.agg #[m0, m1, m2], .int .i64 k] w (CheckPost w (checkR m k).1 (checkR m k).2) := by
  have HM := Lib.hid hm
  have hlev := fun W (hW : New w W) => call_Level W m0 m1 m2 m (hm.new hW) hsz k
  have HLEV := Lib.hid hlev
  have hm2 : ∃ A c, m2 = .slice A m.rules.length c := by obtain ⟨_, _, A, c, e, _⟩ := hm; exact ⟨A, c, e⟩
  obtain ⟨A0, c0, hm2⟩ := hm2
  have hb1 := heap_alloc_new w (.cells #[m0, m1, m2] 24)
  have HB1 := Lib.hid hb1
  clear hlev hm hsz hb1
  subst hm2
  obtain ⟨r, hr⟩ : ∃ r, r = levelR m k := ⟨_, rfl⟩
  have HR := Lib.hid hr
  rw [← hr] at HLEV
  have hc : checkR m k = if r.2 ≠ 0 then (false, r.2) else (decide (r.1 = []) && !stopsB m k.toNat, 0) := by unfold checkR; rw [← hr]
  obtain ⟨ck, hck⟩ : ∃ ck, ck = checkR m k := ⟨_, rfl⟩
  rw [← hck] at hc ⊢
  have HCK := Lib.hid hc
  clear hc hr hck
  go_enter Try.func15, Try.ntmps15
  go_wp2_with fail
  refine (HLEV.out _ ((New.refl w).alloc _)).mono ?_
  rintro e w2 ⟨v, rfl, hp, hn2⟩
  obtain ⟨A, c, hv⟩ := hp.shape
  obtain ⟨er, her⟩ : ∃ er, er = r.2 := ⟨_, rfl⟩
  obtain ⟨L, hL⟩ : ∃ L, L = r.1.length := ⟨_, rfl⟩
  rw [← hL] at hv
  subst hv
  rw [← her]
  have HL := Lib.hid hL; have HER := Lib.hid her; have HN2 := Lib.hid hn2
  have hbm := hn2.blk HB1.out
  have x0 := blk_cell hbm 0 _ rfl
  have x1 := blk_cell hbm 1 _ rfl
  have x2 := blk_cell hbm 2 _ rfl
  clear hL her hp hn2 hbm
  by_cases he : er = 0
  · have hd : (er != 0) = false := by simpa using he
    have hck2 : ck = (decide (r.1 = []) && !stopsB m k.toNat, 0) := by rw [HCK.out, if_neg (by rw [← HER.out]; simpa using he)]
    have HCK2 := Lib.hid hck2
    clear hck2
    obtain ⟨hg, hk0, hk1⟩ := levelR_ok (m := m) (k := k) (by rw [← HR.out, ← HER.out]; exact he)
    obtain ⟨kn, hkn⟩ : ∃ kn : Nat, k = kn := ⟨k.toNat, by omega⟩
    subst hkn
    have hst := call_stops w2 m0 m1 (.slice A0 m.rules.length c0) m (HM.out.new (((New.refl w).alloc _).trans HN2.out)) hg kn (by omega)
    have HST := Lib.hid hst; have HE := Lib.hid he
    clear hst he hg
    by_cases hz : L = 0
    · have hz2 : r.1 = [] := List.eq_nil_of_length_eq_zero (by rw [← HL.out]; exact hz)
      have hzb : ((L : Int) == 0) = true := by simp; omega
      obtain ⟨sb, hsb⟩ : ∃ sb, sb = stopsB m kn := ⟨_, rfl⟩
      have hck3 : ck = (!sb, 0) := by rw [HCK2.out, hz2, Int.toNat_natCast, ← hsb]; simp
      have HCK3 := Lib.hid hck3
      rw [← hsb] at HST
      clear hz hz2 hsb hck3
      go_wp2_with fail
      refine HST.out.mono ?_
      rintro e w3 ⟨rfl, hn3⟩
      have HN3 := Lib.hid hn3
      clear hn3 x0 x1 x2
      cases sb
      · go_wp2
        refine bodyPost_ret (v := .tuple #[.bool true, .int .i64 0]) (by simp [results, Try.results15, go_sem]) rfl ?_
        exact ⟨by rw [HCK3.out]; rfl, (((New.refl w).alloc _).trans HN2.out).trans HN3.out⟩
      · go_wp2
        refine bodyPost_ret (v := .tuple #[.bool false, .int .i64 0]) (by simp [results, Try.results15, go_sem]) rfl ?_
        exact ⟨by rw [HCK3.out]; rfl, (((New.refl w).alloc _).trans HN2.out).trans HN3.out⟩
    · have hz2 : decide (r.1 = []) = false := by simp; intro h; rw [h] at HL; exact hz HL.out
      have hzb : ((L : Int) == 0) = false := by simp; omega
      have hck3 : ck = (false, 0) := by rw [HCK2.out, hz2]; rfl
      have HCK3 := Lib.hid hck3
      clear hz hz2 hck3
      go_wp2
      refine bodyPost_ret (v := .tuple #[.bool false, .int .i64 0]) (by simp [results, Try.results15, go_sem]) rfl ?_
      exact ⟨by rw [HCK3.out], ((New.refl w).alloc _).trans HN2.out⟩
  · have hd : (er != 0) = true := by simpa using he
    have hck2 : ck = (false, er) := by rw [HCK.out, if_pos (by rw [← HER.out]; simpa using he), ← HER.out]
    have HCK2 := Lib.hid hck2
    clear hck2
    clear he
    go_wp2
    refine bodyPost_ret (v := .tuple #[.bool false, .int .i64 er]) (by simp [results, Try.results15, go_sem]) rfl ?_
    exact ⟨by rw [HCK2.out], ((New.refl w).alloc _).trans HN2.out⟩
end Go.Proofs.Ytgnhlaonckognaa
