/- ref11.Level walked. Conditions: a right machine, at most 100 levels of at most 2000 elements. -/
import Derived.Test.YtgnhlaonckognaaRNext
namespace Go.Proofs.Ytgnhlaonckognaa
open Go.RowKit Go.Proofs.YtgnhlaonckognaaW.PrintWords
set_option linter.unusedVariables false
set_option linter.unusedSimpArgs false

def RLevPost (w : World) (o : Option (List Pt)) (e : Ending) (w' : World) : Prop :=
  New w w' ∧ ((o = none ∧ e = .returned (.tuple #[.slice none 0 0, .bool false])) ∨ ∃ l v, o = some l ∧ e = .returned (.tuple #[v, .bool true]) ∧ PtsV w' v l)
def LvRel (w : World) (m0 m1 m2 : Value) (m : Mc) (k mo : Nat) (gk : Nat) (v8 v9 : Value) (wr : World) : Prop :=
  ∃ i : Nat, v9 = .int .i64 i ∧ i + gk = k ∧ PtsV wr v8 (levelL m i) ∧ MachB w wr w.heap.size m0 m1 m2 ∧ ∀ j, j < i → (levelL m j).length ≤ mo

set_option maxHeartbeats 8000000 in
set_option maxRecDepth 100000 in
theorem call_RLevel (w : World) (m0 m1 m2 : Value) (m : Mc) (hm : MachC w m0 m1 m2 m) (hg : m.Good) (k mo : Nat) (hk : k ≤ 100) (hmo : mo ≤ 2000) :
    Calls Try.prog 13 #[.agg #[m0, m1, m2], .int .i64 k, .int .i64 mo] w (RLevPost w (rlevelR m k mo)) := by
  have HM := Lib.hid hm; have HG := Lib.hid hg
  have hz := fun W (hW : New w W) => call_Zero W m0 m1 m2 m (hm.new hW) hg
  have hnx := fun W (hW : New w W) (A : Option Addr) (c i : Nat) (hl : (levelL m i).length ≤ 2000) (hi : i ≤ 100) (hC : Kd.C kPt W A (levelL m i).length (levelL m i)) => call_RNext W m0 m1 m2 m (hm.new hW) hg A c (levelL m i) hl hC (fun p hp => ⟨levelL_ok hg i p hp, by have := levelL_len i p hp; omega⟩)
  have HZ := Lib.hid hz; have HNXT := Lib.hid hnx
  have hm2 : ∃ A c, m2 = .slice A m.rules.length c := by obtain ⟨_, _, A, c, e, _⟩ := hm; exact ⟨A, c, e⟩
  obtain ⟨A0, c0, hm2⟩ := hm2
  have hm0 : m0 = .int .i64 m.states := by obtain ⟨e, _⟩ := hm; exact e
  have hm1 : m1 = .int .i64 m.symbols := by obtain ⟨_, e, _⟩ := hm; exact e
  have hb0 := heap_alloc_new w (.cells #[m0, m1, m2] 24)
  have HB0 := Lib.hid hb0
  clear hm hg hz hnx hb0
  subst hm0 hm1 hm2
  go_enter Try.func13, Try.ntmps13
  go_wp2_with (go_at_call 34; refine (HZ.out _ ((New.refl w).alloc _)).mono ?_; rintro e w2 ⟨v2, rfl, hp2, hn2⟩; have HP2 := Lib.hid hp2; have HB2 : Hid (MachB w w2 w.heap.size (.int .i64 m.states) (.int .i64 m.symbols) (.slice A0 m.rules.length c0)) := Lib.hid ⟨((New.refl w).alloc _).trans hn2, hn2.blk HB0.out⟩; clear hp2 hn2)
  go_loopg [8, 9] k (fun gk v8 v9 wr => LvRel w (.int .i64 m.states) (.int .i64 m.symbols) (.slice A0 m.rules.length c0) m k mo gk v8 v9 wr)
  case atStart => exact ⟨0, rfl, by omega, HP2.out, HB2.out, fun j hj => absurd hj (by omega)⟩
  case round =>
    obtain ⟨i, rfl, hi, hpts, hnew, hall⟩ := hrel
    obtain ⟨A, c, hv, hc, hC⟩ := hpts
    obtain ⟨n, hn⟩ : ∃ n, n = (levelL m i).length := ⟨_, rfl⟩
    rw [← hn] at hv
    have HN := Lib.hid hn; have HC := Lib.hid hC; have HW := Lib.hid hnew; have HI := Lib.hid hi; have HA := Lib.hid hall; have HCC := Lib.hid hc
    subst hv
    have k0 := blk_cell hnew.blk 0 _ rfl
    have k1 := blk_cell hnew.blk 1 _ rfl
    have k2 := blk_cell hnew.blk 2 _ rfl
    have hi100 : i ≤ 100 := by omega
    clear hn hC hnew hi hall hc
    by_cases hbig : mo < n
    · have hd : decide ((mo : Int) < (n : Int)) = true := by simp; omega
      go_wp2
      refine bodyPost_ret (v := .tuple #[.slice none 0 0, .bool false]) (by simp [results, Try.results13, go_sem]) rfl ?_
      refine ⟨HW.out.new, .inl ⟨?_, rfl⟩⟩
      unfold rlevelR
      rw [if_neg (fun h => by have := h i (by have := HI.out; omega); have := HN.out; omega)]
    · have hd : decide ((mo : Int) < (n : Int)) = false := by simp; omega
      by_cases hik : i = k
      · have hd2 : ((i : Int) == (k : Int)) = true := by simp; omega
        have HIK := Lib.hid hik
        clear hik
        go_wp2
        refine bodyPost_ret (v := .tuple #[.slice A n c, .bool true]) (by simp [results, Try.results13, go_sem]) rfl ?_
        refine ⟨HW.out.new, .inr ⟨levelL m i, _, ?_, rfl, ⟨A, c, by rw [HN.out], HCC.out, HC.out⟩⟩⟩
        unfold rlevelR
        rw [if_pos (fun j hj => ?_), HIK.out]
        by_cases e : j = i
        · subst e; have := HN.out; omega
        · exact HA.out j (by have := HIK.out; omega)
      · have hd2 : ((i : Int) == (k : Int)) = false := by simp; omega
        have hnext := HNXT.out wr HW.out.new A c i (by have := HN.out; omega) (by have := HI.out; omega) HC.out
        rw [← HN.out] at hnext
        have HNE := Lib.hid hnext; have HIK := Lib.hid hik
        clear hnext hik
        go_wp2_with (go_at_call 35; refine HNE.out.mono ?_; rintro e w4 ⟨v4, rfl, hp4, hn4⟩; have HP4 := Lib.hid hp4; have HN4 := Lib.hid hn4; clear hp4 hn4 k0 k1 k2)
        go_roundg (gk - 1)
        case measure => have := HI.out; have := HIK.out; omega
        case rel => exact ⟨i + 1, by go_num, by have := HI.out; have := HIK.out; omega, HP4.out, HW.out.grow HN4.out, fun j hj => by
          by_cases e : j = i
          · subst e; have := HN.out; omega
          · exact HA.out j (by omega)⟩
end Go.Proofs.Ytgnhlaonckognaa
