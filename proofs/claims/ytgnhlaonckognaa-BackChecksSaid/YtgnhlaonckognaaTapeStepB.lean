/- The program's walk: step walked. Conditions: a right machine; positions within K of C. -/
import Derived.Test.YtgnhlaonckognaaTapeStep
namespace Go.Proofs.Ytgnhlaonckognaa
open Go.RowKit Go.Proofs.YtgnhlaonckognaaW.PrintWords
set_option linter.unusedVariables false
set_option linter.unusedSimpArgs false

/-- Why a step may fail: a limit. -/
def Wk.bad (m : Mc) (k : Wk) : Prop :=
  ¬ (-1099511627776 ≤ k.pos + (ruleAt m k.state (k.band.get k.pos)).move ∧ k.pos + (ruleAt m k.state (k.band.get k.pos)).move ≤ 1099511627776) ∨ k.over ∨ (k.low ≤ k.high ∧ 1099511627776 < max k.high k.pos)
def StepPost (w : World) (base bw : Nat) (m0 m1 m2 : Value) (m : Mc) (k : Wk) (K C B : Int) (e : Ending) (w' : World) : Prop :=
  Below base w w' ∧ ((e = .returned (.bool false) ∧ k.bad m) ∨
    ∃ bb' k', e = .returned (.bool true) ∧ WalkM w' base bw bb' m0 m1 m2 k' ∧ k'.Inv K C (B + 1) ∧ k'.cf = stepC m k.cf ∧ Kt [3, 164, 139] w w')
/-- The machine, in a walk. -/
structure RuleS (w : World) (m : Mc) (s y : Int) (q : Rl) (adm : Addr) (ad2 : Addr) (n2 c2 : Nat) : Prop where
  row : w.cell? (adm.add s.toNat) = some (.slice (some ad2) n2 c2)
  k0 : w.cell? (ad2.add (y.toNat * 3)) = some (.int .i64 q.write)
  k1 : w.cell? ⟨(ad2.add (y.toNat * 3)).block, (ad2.add (y.toNat * 3)).off + 1, none⟩ = some (.int .i64 q.move)
  k2 : w.cell? ⟨(ad2.add (y.toNat * 3)).block, (ad2.add (y.toNat * 3)).off + 2, none⟩ = some (.int .i64 q.next)
/-- What the rule's statement leaves. -/
def RuleBox (w : World) (q : Rl) (s3 : Value) (wx : World) : Prop :=
  ∃ g, s3 = .pointer (some ⟨g, 0, none⟩) ∧ wx.heap[g]? = some (.cells #[.int .i64 q.write, .int .i64 q.move, .int .i64 q.next] 84 (0, 0)) ∧ New w wx

theorem world_drewN {w w1 : World} {n : Nat} (h : w1 = w.drewN n) : (∀ a, w1.cell? a = w.cell? a) ∧ (∀ a, w1.frozen? a = w.frozen? a) ∧ w1.heap.size = w.heap.size := by
  subst h
  exact ⟨fun _ => rfl, fun _ => rfl, rfl⟩
theorem New.named {w w1 w2 : World} {n : Nat} (h : Hid (w2 = w1.drewN n)) (hn : New w w1) : New w w2 := by rw [h.out]; exact hn.drewN n
theorem box_a {w w2 : World} {n : Nat} {q : Rl} (h : Hid (w2 = w.drew.drewN n)) : RuleBox w q (.pointer (some ⟨w.heap.size, 0, none⟩)) (w2.alloc (.cells #[.int .i64 q.write, .int .i64 q.move, .int .i64 q.next] 84)) := by
  have h' := h.out
  subst h'
  exact ⟨w.heap.size, rfl, heap_alloc_at _ _ _ rfl, (((New.refl w).drew).drewN n).alloc _⟩
theorem box_b {w w2 : World} {n : Nat} {q : Rl} (h : Hid (w2 = (w.alloc (.cells #[.int .i64 0, .int .i64 0, .int .i64 0] 84)).drew.drewN n)) :
    RuleBox w q (.pointer (some ⟨w.heap.size, 0, none⟩)) (((w2.setCell ⟨w.heap.size, 0, none⟩ (.int .i64 q.write)).setCell ⟨w.heap.size, 1, none⟩ (.int .i64 q.move)).setCell ⟨w.heap.size, 2, none⟩ (.int .i64 q.next)) := by
  have h' := h.out
  subst h'
  have h0 : ((w.alloc (.cells #[.int .i64 0, .int .i64 0, .int .i64 0] 84)).drew.drewN n).heap[w.heap.size]? = some (.cells #[.int .i64 0, .int .i64 0, .int .i64 0] 84 (0, 0)) := heap_alloc_new w _
  refine ⟨w.heap.size, rfl, ?_, ?_⟩
  · have := blk_set (blk_set (blk_set h0 0 (.int .i64 q.write)) 1 (.int .i64 q.move)) 2 (.int .i64 q.next)
    simpa using this
  · exact ((((((New.refl w).alloc _).drew).drewN n).set (p := ⟨w.heap.size, 0, none⟩) (Nat.le_refl _) _).set (p := ⟨w.heap.size, 1, none⟩) (Nat.le_refl _) _).set (p := ⟨w.heap.size, 2, none⟩) (Nat.le_refl _) _
theorem rule_keep {w w' : World} {a1 a2 a3 a4 a5 a6 : Addr} {v1 v2 v3 v4 v5 v6 : Value} (h1 : w.cell? a1 = some v1) (h2 : w.cell? a2 = some v2) (h3 : w.cell? a3 = some v3) (h4 : w.cell? a4 = some v4) (h5 : w.cell? a5 = some v5) (h6 : w.cell? a6 = some v6) (hN : New w w') :
    w'.cell? a1 = some v1 ∧ w'.cell? a2 = some v2 ∧ w'.cell? a3 = some v3 ∧ w'.cell? a4 = some v4 ∧ w'.cell? a5 = some v5 ∧ w'.cell? a6 = some v6 ∧ New w w' :=
  ⟨hN.cell h1, hN.cell h2, hN.cell h3, hN.cell h4, hN.cell h5, hN.cell h6, hN⟩

set_option maxHeartbeats 16000000 in
set_option maxRecDepth 100000 in
theorem walk_step (w : World) (base bw bb : Nat) (m0 m1 m2 : Value) (m : Mc) (k : Wk) (K C B : Int) (h : WalkM w base bw bb m0 m1 m2 k) (hm : MachC w m0 m1 m2 m) (hg : m.Good) (hi : k.Inv K C B) (hs : 0 ≤ k.state) (hok : k.cf.Ok m)
    (hbase : base ≤ w.heap.size) (hK : K ≤ 10000000) (hB0 : 0 ≤ B) (hBK : B + 17 ≤ K) (hC0 : -1100000000000 ≤ C - B) (hC1 : C + B ≤ 1100000000000) :
    Calls Try.prog 79 #[.pointer (some ⟨bw, 0, none⟩)] w (StepPost w base bw m0 m1 m2 m k K C B) := by
  have hs1 : k.state < m.states := hok.hi
  have hx0 : 0 ≤ k.band.get k.pos := (hok.sym k.pos).1
  have hx1 : k.band.get k.pos < m.symbols := (hok.sym k.pos).2
  obtain ⟨adm, A2, c, c2, e2, hc, hrow, hc2, hC⟩ := hm.row k.state hs (by rw [hg.len]; exact hs1)
  have hlr := hg.row _ (hg.rowAt hs hs1)
  obtain ⟨ad2, eA, k0, k1, k2⟩ := rule_cells hC (k.band.get k.pos) hx0 (by rw [hlr]; exact hx1)
  have hrd : (m.rules.getD k.state.toNat []).getD (k.band.get k.pos).toNat default = ruleAt m k.state (k.band.get k.pos) := rfl
  rw [hrd] at k0 k1 k2
  have hro := hg.ruleOk hs hs1 hx0 hx1
  subst eA
  have hsym := fun W (hW : WalkM W base bw bb m0 m1 m2 k) => walk_symbol W base bw bb m0 m1 m2 k K C B hW hi hK
  have hww := fun W (hW : WalkM W base bw bb m0 m1 m2 k) (hb : base ≤ W.heap.size) (x : Int) => write_any W base bw bb m0 m1 m2 k K C B x hW hi hb hK hB0 (by omega) hC0 hC1
  obtain ⟨q, hq⟩ : ∃ q, q = ruleAt m k.state (k.band.get k.pos) := ⟨_, rfl⟩
  rw [← hq] at k0 k1 k2 hro
  obtain ⟨x, hx⟩ : ∃ x, x = k.band.get k.pos := ⟨_, rfl⟩
  have hlrows : (k.state : Int) < (m.rules.length : Int) := by rw [hg.len]; exact hs1
  have hlrow : x < ((m.rules.getD k.state.toNat []).length : Int) := by rw [hlr, hx]; exact hx1
  generalize hL1 : m.rules.length = n1 at *
  generalize hL2 : (m.rules.getD k.state.toNat []).length = n2 at *
  rw [← hx] at k0 k1 k2 hx0 hx1
  simp only [← hx] at hsym
  have hw2 := h.cells.1
  have hw4 := h.cells.2.2.1
  rw [e2] at hw2
  have HX := Lib.hid hx; have HQ := Lib.hid hq; have H := Lib.hid h; have HSYM := Lib.hid hsym; have HWW := Lib.hid hww; have HI := Lib.hid hi; have HE2 := Lib.hid e2
  have hp0 := hi.p0; have hp1 := hi.p1
  have hmv := hro.mv
  clear hx hq h hm hL1 hL2 hsym hrd hlr hC hww hi hok e2
  go_enter Try.func79, Try.ntmps79
  go_upto_region 1 with fail
  go_cut [3] (fun s3 wx => RuleBox w q s3 wx)
  case first =>
    go_region_held3 (fun w' => w'.cell? ⟨bw, 2, none⟩ = some (.slice (some adm) n1 c) ∧ w'.cell? ⟨bw, 4, none⟩ = some (.int .i64 k.state) ∧ w'.cell? (adm.add k.state.toNat) = some (.slice (some ad2) n2 c2) ∧ w'.cell? (ad2.add (x.toNat * 3)) = some (.int .i64 q.write) ∧ w'.cell? ⟨(ad2.add (x.toNat * 3)).block, (ad2.add (x.toNat * 3)).off + 1, none⟩ = some (.int .i64 q.move) ∧ w'.cell? ⟨(ad2.add (x.toNat * 3)).block, (ad2.add (x.toNat * 3)).off + 2, none⟩ = some (.int .i64 q.next) ∧ New w w') (first | (refine rule_keep hw2 hw4 hrow k0 k1 k2 ?_; (repeat (first | assumption | exact New.refl _ | exact Nat.le_refl _ | refine New.named ‹_› ?_ | refine New.drew ?_ | refine New.drewN ?_ _ | refine New.alloc ?_ _ | refine New.set ?_ ?_ _)); done)) (first | (go_at_call 98; refine (HSYM.out _ ?_).mono ?_; (refine H.out.new ?_; (repeat (first | assumption | exact New.refl _ | refine New.drew ?_ | refine New.drewN ?_ _ | refine New.alloc ?_ _))); rintro e w2 ⟨rfl, n, hw2'⟩; have HW2 := Lib.hid hw2'; obtain ⟨hce, hfz, hsz2⟩ := world_drewN hw2'; clear hw2'))
    all_goals
      go_wp2
      go_meet
      first
        | exact box_a HW2
        | exact box_b HW2
  case rest =>
    obtain ⟨g, rfl, hbox, hnw⟩ := hcut
    have HBOX := Lib.hid hbox; have HNW := Lib.hid hnw
    have hW : WalkM wc base bw bb m0 m1 m2 k := H.out.new hnw
    have HW := Lib.hid hW
    have hbwc : base ≤ wc.heap.size := Nat.le_trans hbase hnw.size
    have q5 := hW.cells.2.2.2.1
    have x0 := blk_cell hbox 0 _ rfl
    have x1 := blk_cell hbox 1 _ rfl
    have hbel : Below base w wc := hnw.below.mono hbase
    have HBEL := Lib.hid hbel
    clear hbox hnw hW hbel hw2 hw4 hrow k0 k1 k2
    by_cases o1 : k.pos + q.move < -1099511627776
    · as_aux_lemma =>
        have hd1 : decide (k.pos + q.move < -1099511627776) = true := by simpa using o1
        go_wp2
        go_quiet (fail)
        go_wp2
        go_ret
        exact ⟨pw_below_drewN HBEL.out _, .inl ⟨rfl, .inl (by rw [← HQ.out]; omega)⟩⟩
    · have hd1 : decide (k.pos + q.move < -1099511627776) = false := by simpa using o1
      by_cases o2 : 1099511627776 < k.pos + q.move
      · as_aux_lemma =>
          have hd2 : decide (1099511627776 < k.pos + q.move) = true := by simpa using o2
          go_wp2
          go_quiet (fail)
          go_wp2
          go_ret
          exact ⟨pw_below_drewN HBEL.out _, .inl ⟨rfl, .inl (by rw [← HQ.out]; omega)⟩⟩
      · have hd2 : decide (1099511627776 < k.pos + q.move) = false := by simpa using o2
        as_aux_lemma =>
          have hwr : IntKind.i64.wrap (k.pos + q.move) = k.pos + q.move := by rw [IntKind.wrap_i64]; omega
          go_wp2
          refine wp_region_still_tail 22 (by kernel_rfl) (by kernel_rfl) ?_
          simp only [List.take_succ_cons, List.take_zero, List.drop_succ_cons, List.drop_zero]
          repeat (first | still_step | (refine wpStill_step (fun K hK => ?_); rw [if_pos (by rfl)]; go_simp; refine hK _ ?_; clear hK K))
          refine wpStill_nil ?_
          change wpList _ _ _ _ _ wc.drew
          go_wp2_with fail
          clear hwr
          refine (HWW.out wc.drew HW.out hbwc q.write).mono ?_
          rintro e w3 ⟨hb3, ⟨rfl, hov⟩ | ⟨bb3, k3, rfl, hW3, hI3, hp3, hs3, hg3, hk3⟩⟩
          · have HB3 := Lib.hid hb3; have HOV := Lib.hid hov
            clear hb3 hov x0 x1 q5
            go_wp2
            go_ret
            exact ⟨HBEL.out.drew.trans HB3.out, .inl ⟨rfl, .inr HOV.out⟩⟩
          · have HW3 := Lib.hid hW3; have HI3 := Lib.hid hI3; have HP3 := Lib.hid hp3; have HS3 := Lib.hid hs3; have HG3 := Lib.hid hg3; have HK3 := Lib.hid hk3; have HB3 := Lib.hid hb3
            have hbx3 := hk3 _ _ _ _ (by decide) (show wc.drew.heap[g]? = _ from HBOX.out)
            have HBX3 := Lib.hid hbx3
            clear hW3 hI3 hp3 hs3 hg3 hk3 hb3 x0 x1 q5
            have q5 := HW3.out.cells.2.2.2.1
            have q4 := HW3.out.cells.2.2.1
            rw [HP3.out] at q5
            have f5 := blk_free HW3.out.1 5
            have f4 := blk_free HW3.out.1 4
            have x1 := blk_cell hbx3 1 _ rfl
            have x2 := blk_cell hbx3 2 _ rfl
            have hgb : ¬ g = bw := by
              intro e
              have h1 := HW3.out.1
              rw [← e, hbx3] at h1
              injection h1 with h1
              injection h1 with _ h1 _
              exact absurd h1 (by decide)
            have hgb2 : ¬ bw = g := fun e => hgb e.symm
            clear hbx3
            go_wp2
            go_region
            go_wp2
            go_ret
            have hW4 := (HW3.out.set 5 (.int .i64 (k.pos + q.move)) { k3 with pos := k.pos + q.move } rfl rfl).set 4 (.int .i64 q.next) { k3 with pos := k.pos + q.move, state := q.next } rfl rfl
            have hB4 := ((HBEL.out.drew.trans HB3.out).setCell (p := ⟨bw, 5, none⟩) HW3.out.2.1 (.int .i64 (k.pos + q.move))).setCell (p := ⟨bw, 4, none⟩) HW3.out.2.1 (.int .i64 q.next)
            have hK4 := (((Kt.of_new HNW.out).trans (HK3.out : Kt _ wc.drew w3)).set HW3.out.1 (by simp) 5 (.int .i64 (k.pos + q.move))).set (blk_set HW3.out.1 5 _) (by simp) 4 (.int .i64 q.next)
            have hI4 := HI3.out.move hmv (by rw [HP3.out]; omega) (by rw [HP3.out]; omega) q.next
            rw [HP3.out] at hI4
            have hcf : ({ k3 with pos := k.pos + q.move, state := q.next } : Wk).cf = stepC m k.cf := by
              have hq := HQ.out
              unfold Wk.cf stepC
              dsimp only
              rw [← hq]
              refine Cf.mk.injEq .. ▸ ⟨rfl, rfl, ?_⟩
              funext i
              exact HG3.out i
            exact ⟨hB4.drew, .inr ⟨bb3, _, rfl, hW4, hI4, hcf, hK4.drew⟩⟩
end Go.Proofs.Ytgnhlaonckognaa
