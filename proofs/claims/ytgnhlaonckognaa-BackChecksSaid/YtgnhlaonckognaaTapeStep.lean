/- The program's walk: a step. Conditions: a right machine; positions within K of C. -/
import Derived.Test.YtgnhlaonckognaaTapeWalk
namespace Go.Proofs.Ytgnhlaonckognaa
open Go.RowKit Go.Proofs.YtgnhlaonckognaaW.PrintWords
set_option linter.unusedVariables false
set_option linter.unusedSimpArgs false

def QuietB (w : World) (b : Bool) (e : Ending) (w' : World) : Prop := e = .returned (.bool b) ∧ ∃ n, w' = w.drewN n

set_option maxHeartbeats 2000000 in
set_option maxRecDepth 100000 in
theorem write_idle (w : World) (base bw bb : Nat) (m0 m1 m2 : Value) (k : Wk) (x : Int) (h : WalkM w base bw bb m0 m1 m2 k) (hidle : k.idle x) :
    Calls Try.prog 99 #[.pointer (some ⟨bw, 0, none⟩), .int .i64 x] w (QuietB w true) := by
  obtain ⟨k2, k3, k4, k5, k6, k7⟩ := h.cells
  obtain ⟨rfl, hout⟩ := hidle
  clear h
  by_cases hl : k.low ≤ k.pos
  · have hd1 : decide (k.low ≤ k.pos) = true := by simpa using hl
    have hd2 : decide (k.pos ≤ k.high) = false := by simp; omega
    go_enter Try.func99, Try.ntmps99
    go_wp2
    go_quiet (fail)
    go_wp2
    go_ret
    exact ⟨rfl, _, rfl⟩
  · have hd1 : decide (k.low ≤ k.pos) = false := by simpa using hl
    go_enter Try.func99, Try.ntmps99
    go_wp2
    go_quiet (fail)
    go_wp2
    go_ret
    exact ⟨rfl, _, rfl⟩
set_option maxHeartbeats 8000000 in
set_option maxRecDepth 100000 in
theorem write_over (w : World) (base bw bb : Nat) (m0 m1 m2 : Value) (k : Wk) (K C B x : Int) (h : WalkM w base bw bb m0 m1 m2 k) (hi : k.Inv K C B) (hidle : ¬ k.idle x) (hover : k.over) :
    Calls Try.prog 99 #[.pointer (some ⟨bw, 0, none⟩), .int .i64 x] w (QuietB w false) := by
  obtain ⟨k2, k3, k4, k5, k6, k7⟩ := h.cells
  obtain ⟨hlh, hov⟩ := hover
  have hp0 := hi.p0; have hp1 := hi.p1; have hl0 := hi.l0; have hl1 := hi.l1; have hh0 := hi.h0; have hh1 := hi.h1
  clear h hi
  have hd : decide (k.high < k.low) = false := by simp; omega
  by_cases c1 : k.pos < k.low
  · have hx : x ≠ 0 := fun e => hidle ⟨e, by omega⟩
    have hxb : (x == 0) = false := by simpa using hx
    have hov2 : 100000 ≤ k.high - k.pos := by omega
    have hd1 : decide (k.low ≤ k.pos) = false := by simp; omega
    clear hov hx hidle
    as_aux_lemma =>
      go_enter Try.func99, Try.ntmps99
      go_wp2
      go_quiet (fail)
      obtain ⟨nqa, rfl⟩ : ∃ m, m = nq := ⟨nq, rfl⟩
      go_wp2
      go_quiet (fail)
      obtain ⟨nqb, rfl⟩ : ∃ m, m = nq := ⟨nq, rfl⟩
      go_wp2
      go_quiet (fail)
      go_wp2
      go_ret
      exact ⟨rfl, _, by rw [World.drewN_drewN, World.drewN_drewN]⟩
  · by_cases c2 : k.high < k.pos
    · have hx : x ≠ 0 := fun e => hidle ⟨e, by omega⟩
      have hxb : (x == 0) = false := by simpa using hx
      have hov2 : 100000 ≤ k.pos - k.low := by omega
      have hd1 : decide (k.low ≤ k.pos) = true := by simp; omega
      have hd2 : decide (k.pos ≤ k.high) = false := by simp; omega
      clear hov hx hidle
      as_aux_lemma =>
        go_enter Try.func99, Try.ntmps99
        go_wp2
        go_quiet (fail)
        obtain ⟨nqa, rfl⟩ : ∃ m, m = nq := ⟨nq, rfl⟩
        go_wp2
        go_quiet (fail)
        obtain ⟨nqb, rfl⟩ : ∃ m, m = nq := ⟨nq, rfl⟩
        go_wp2
        go_quiet (fail)
        go_wp2
        go_ret
        exact ⟨rfl, _, by rw [World.drewN_drewN, World.drewN_drewN]⟩
    · have hov2 : 100000 ≤ k.high - k.low := by omega
      have hd1 : decide (k.low ≤ k.pos) = true := by simp; omega
      have hd2 : decide (k.pos ≤ k.high) = true := by simp; omega
      clear hov hidle
      by_cases hx : (x == 0) = true
      · as_aux_lemma =>
          go_enter Try.func99, Try.ntmps99
          go_wp2
          go_quiet (fail)
          obtain ⟨nqa, rfl⟩ : ∃ m, m = nq := ⟨nq, rfl⟩
          go_wp2
          go_quiet (fail)
          obtain ⟨nqb, rfl⟩ : ∃ m, m = nq := ⟨nq, rfl⟩
          go_wp2
          go_quiet (fail)
          go_wp2
          go_ret
          exact ⟨rfl, _, by rw [World.drewN_drewN, World.drewN_drewN]⟩
      · have hxb : (x == 0) = false := by simpa using hx
        clear hx
        as_aux_lemma =>
          go_enter Try.func99, Try.ntmps99
          go_wp2
          go_quiet (fail)
          obtain ⟨nqa, rfl⟩ : ∃ m, m = nq := ⟨nq, rfl⟩
          go_wp2
          go_quiet (fail)
          obtain ⟨nqb, rfl⟩ : ∃ m, m = nq := ⟨nq, rfl⟩
          go_wp2
          go_quiet (fail)
          go_wp2
          go_ret
          exact ⟨rfl, _, by rw [World.drewN_drewN, World.drewN_drewN]⟩

def WrAny (w : World) (base bw : Nat) (m0 m1 m2 : Value) (k : Wk) (K C B x : Int) (e : Ending) (w' : World) : Prop :=
  Below base w w' ∧ ((e = .returned (.bool false) ∧ (k.over ∨ (k.low ≤ k.high ∧ 1099511627776 < max k.high k.pos))) ∨
    ∃ bb' k', e = .returned (.bool true) ∧ WalkM w' base bw bb' m0 m1 m2 k' ∧ k'.Inv K C B ∧ k'.pos = k.pos ∧ k'.state = k.state ∧ (∀ i, k'.band.get i = if i = k.pos then x else k.band.get i) ∧ Kt [3, 164, 139] w w')
theorem write_any (w : World) (base bw bb : Nat) (m0 m1 m2 : Value) (k : Wk) (K C B x : Int) (h : WalkM w base bw bb m0 m1 m2 k) (hi : k.Inv K C B) (hbase : base ≤ w.heap.size) (hK : K ≤ 10000000) (hB0 : 0 ≤ B) (hBK : B + 16 ≤ K) (hC0 : -1100000000000 ≤ C - B) (hC1 : C + B ≤ 1100000000000) :
    Calls Try.prog 99 #[.pointer (some ⟨bw, 0, none⟩), .int .i64 x] w (WrAny w base bw m0 m1 m2 k K C B x) := by
  by_cases hidle : k.idle x
  · refine (write_idle w base bw bb m0 m1 m2 k x h hidle).mono ?_
    rintro e w' ⟨rfl, n, rfl⟩
    refine ⟨pw_below_drewN (Below.refl _ _) _, .inr ⟨bb, k, rfl, h.drewN n, hi, rfl, rfl, fun i => ?_, (Kt.refl _ _).drewN n⟩⟩
    obtain ⟨rfl, ho⟩ := hidle
    by_cases e : i = k.pos
    · rw [if_pos e, e]; exact hi.out _ ho
    · rw [if_neg e]
  · by_cases hover : k.over
    · refine (write_over w base bw bb m0 m1 m2 k K C B x h hi hidle hover).mono ?_
      rintro e w' ⟨rfl, n, rfl⟩
      exact ⟨pw_below_drewN (Below.refl _ _) _, .inl ⟨rfl, .inl hover⟩⟩
    · refine (walk_write w base bw bb m0 m1 m2 k K C B x h hi hbase hK hB0 hBK hC0 hC1 hidle hover).mono ?_
      rintro e w' ⟨bb', k', he, hW, hI, hp, hs, hg, hb, hk⟩
      refine ⟨hb, ?_⟩
      rcases he with rfl | ⟨rfl, hx⟩
      · exact .inr ⟨bb', k', rfl, hW, hI, hp, hs, hg, hk⟩
      · exact .inl ⟨rfl, .inr hx⟩
end Go.Proofs.Ytgnhlaonckognaa
