/- The reference's run walked: Go, Begin. Conditions: at most 2^39 steps. -/
import Derived.Test.YtgnhlaonckognaaRunWalk
namespace Go.Proofs.Ytgnhlaonckognaa
open Go.RowKit Go.Proofs.YtgnhlaonckognaaW.PrintWords
set_option linter.unusedVariables false
set_option linter.unusedSimpArgs false

/-- What holds at the head of Go's loop. -/
def GoRel (w : World) (base b : Nat) (ok : Nat → Prop) (m0 m1 m2 : Value) (m : Mc) (r : Rn) (n : Int) (gk : Nat) (v5 : Value) (wr : World) : Prop :=
  ∃ i : Nat, v5 = .int .i64 i ∧ (i : Int) + gk = max n 0 ∧ RunM wr base b (Sn ok w) m0 m1 m2 (Rn.go m i r) ∧ Chg ok w wr

set_option maxHeartbeats 4000000 in
theorem run_Go (w : World) (base b : Nat) (ok : Nat → Prop) (m0 m1 m2 : Value) (m : Mc) (r : Rn) (n : Int) (K : Nat) (h : RunM w base b ok m0 m1 m2 r) (hm : MachC w m0 m1 m2 m) (hg : m.Good)
    (hr : r.cf.Ok m) (hb : r.Bd K) (hK : (K : Int) + n ≤ 549755813888) (hK2 : K ≤ 549755813888) (hbase : base ≤ w.heap.size) (hsep : ∀ k, ok k → k < w.heap.size → base ≤ k) (hmb : MachC w m0 m1 m2 m → ∀ w', Chg ok w w' → MachC w' m0 m1 m2 m) :
    Calls Try.prog 17 #[.pointer (some ⟨b, 0, none⟩), .int .i64 n] w fun e w' => e = .returned (.pointer (some ⟨b, 0, none⟩)) ∧ RunM w' base b (Sn ok w) m0 m1 m2 (Rn.go m n.toNat r) ∧ Chg ok w w' := by
  have H := Lib.hid h; have HM := Lib.hid hm; have HMB := Lib.hid hmb; have HR := Lib.hid hr
  clear h hm hmb hsep hr
  go_enter Try.func17, Try.ntmps17
  go_wp2
  go_loopg [5] n.toNat (fun gk v5 wr => GoRel w base b ok m0 m1 m2 m r n gk v5 wr)
  case atStart => exact ⟨0, rfl, by omega, H.out.mono (fun k hk => .inl hk), Chg.refl _ _⟩
  case round =>
    obtain ⟨i, rfl, hi, hrun, hchg⟩ := hrel
    have HRUN := Lib.hid hrun; have HCHG := Lib.hid hchg
    have HI := Lib.hid hi
    clear hrun hchg
    by_cases hlt : (i : Int) < n
    · have hi2 : (i : Int) ≤ 549755813888 := by omega
      clear hi
      have hok := Lib.hid (Rn.go_ok hg HR.out i)
      have hbd := Lib.hid (Rn.go_bd hg i HR.out hb)
      by_cases hst : (Rn.go m i r).state = -1
      · have HST := Lib.hid hst
        clear hst
        go_wp2_with (go_at_call 38; refine (run_Step_stop _ base b (Sn ok w) m0 m1 m2 _ HRUN.out HST.out).mono ?_; rintro e w2 ⟨rfl, rfl⟩)
        go_ret
        refine ⟨rfl, ?_, HCHG.out⟩
        obtain ⟨d, hd⟩ : ∃ d, n.toNat = i + d := ⟨n.toNat - i, by omega⟩
        rw [hd, Rn.go_add, Rn.go_stop HST.out]
        exact HRUN.out
      · have HST := Lib.hid hst
        clear hst
        go_wp2_with (go_at_call 38; refine (run_Step _ base b (Sn ok w) m0 m1 m2 m _ HRUN.out (HMB.out HM.out _ HCHG.out) hg ?_ ?_ ?_ ?_ ?_ ?_ ?_ ?_ ?_ ?_).mono ?_; rotate_right; rintro e w2 ⟨rfl, hrun2, hchg2⟩; have HR2 := Lib.hid hrun2; have HC2 := Lib.hid hchg2; clear hrun2 hchg2)
        · go_roundg (gk - 1)
          case measure => have := HI.out; omega
          case rel =>
            refine ⟨i + 1, by go_num, by have := HI.out; omega, ?_, ?_⟩
            · rw [Rn.go_succ', if_neg HST.out]
              exact HR2.out.mono (fun k hk => hk.sn HCHG.out.size)
            · exact HCHG.out.trans HC2.out
        · have h0 := HST.out; have h1 : -1 ≤ (Rn.go m i r).state := hok.out.lo; omega
        · exact hok.out.hi
        · exact (hok.out.sym _).1
        · exact (hok.out.sym _).2
        · have := hbd.out.p0; omega
        · have := hbd.out.p1; omega
        · have := hbd.out.r1; omega
        · have := hbd.out.l1; omega
        · have := hbd.out.s0; have := hbd.out.s1; omega
        · exact Nat.le_trans hbase HCHG.out.size
    · go_wp2
      go_ret
      refine ⟨rfl, ?_, HCHG.out⟩
      have e : n.toNat = i := by have := HI.out; omega
      rw [e]
      exact HRUN.out

/-- A fresh run. -/
theorem run_Begin (w : World) (m0 m1 m2 : Value) :
    Calls Try.prog 16 #[.agg #[m0, m1, m2]] w fun e w' => ∃ b, e = .returned (.pointer (some ⟨b, 0, none⟩)) ∧ w.heap.size ≤ b ∧ RunM w' w.heap.size b (fun k => w.heap.size ≤ k) m0 m1 m2 Rn.fresh ∧ New w w' := by
  go_enter Try.func16, Try.ntmps16
  go_wp2
  go_ret
  refine ⟨w.heap.size + 1, rfl, by omega, ?_, ?_⟩
  · refine ⟨.slice none 0 0, .slice none 0 0, ?_, by show w.heap.size ≤ _; omega, own_nil _ _ _ _, fun k hk => by simp [Value.ownBlock] at hk, own_nil _ _ _ _, fun k hk => by simp [Value.ownBlock] at hk, fun k hk => by simp [Value.ownBlock] at hk⟩
    exact heap_alloc_at _ _ _ (by simp)
  · exact ((New.refl _).alloc _).alloc _
end Go.Proofs.Ytgnhlaonckognaa
