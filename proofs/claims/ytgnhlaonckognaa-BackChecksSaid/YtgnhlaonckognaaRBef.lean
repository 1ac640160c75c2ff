/- ref11.Before walked: the reference's predecessor. Conditions: a right machine, a rule of it, a right element. -/
import Derived.Test.YtgnhlaonckognaaBackC
import Derived.Test.YtgnhlaonckognaaAddW
namespace Go.Proofs.Ytgnhlaonckognaa
open Go.RowKit Go.Proofs.YtgnhlaonckognaaW.PrintWords
set_option linter.unusedVariables false
set_option linter.unusedSimpArgs false

/-- The cells of a rule of the machine, at (s, y). -/
structure RuleAt (w : World) (m : Mc) (s y : Nat) (r : Rl) (adm : Addr) (cm : Nat) (adr : Addr) (cr : Nat) (nr : Nat) : Prop where
  row : w.cell? (adm.add s) = some (.slice (some adr) nr cr)
  hy : y < nr
  k0 : w.cell? (adr.add (y * 3)) = some (.int .i64 r.write)
  k1 : w.cell? ⟨(adr.add (y * 3)).block, (adr.add (y * 3)).off + 1, none⟩ = some (.int .i64 r.move)
  k2 : w.cell? ⟨(adr.add (y * 3)).block, (adr.add (y * 3)).off + 2, none⟩ = some (.int .i64 r.next)
theorem RuleAt.new {w w1 : World} {m : Mc} {s y : Nat} {r : Rl} {adm : Addr} {cm : Nat} {adr : Addr} {cr nr : Nat} (h : RuleAt w m s y r adm cm adr cr nr) (hn : New w w1) : RuleAt w1 m s y r adm cm adr cr nr :=
  ⟨hn.cell h.row, h.hy, hn.cell h.k0, hn.cell h.k1, hn.cell h.k2⟩
theorem MachC.ruleAt {w : World} {m0 m1 m2 : Value} {m : Mc} (h : MachC w m0 m1 m2 m) {s y : Nat} {row : List Rl} {r : Rl} (hs : m.rules[s]? = some row) (hy : row[y]? = some r) :
    ∃ adm cm adr cr, m2 = .slice (some adm) m.rules.length cm ∧ RuleAt w m s y r adm cm adr cr row.length := by
  have hsl := (List.getElem?_eq_some_iff.1 hs).1
  have hyl := (List.getElem?_eq_some_iff.1 hy).1
  obtain ⟨adm, A2, cm, c2, e, hc, hrow, hc2, hC⟩ := h.row (s : Int) (by omega) (by omega)
  rw [Int.toNat_natCast] at hrow hC
  have er : m.rules.getD s [] = row := by rw [List.getD_eq_getElem?_getD, hs]; rfl
  rw [er] at hrow hC
  obtain ⟨adr, e2, k0, k1, k2⟩ := rule_cells hC (y : Int) (by omega) (by omega)
  subst e2
  rw [Int.toNat_natCast] at k0 k1 k2
  have er2 : row.getD y default = r := by rw [List.getD_eq_getElem?_getD, hy]; rfl
  rw [er2] at k0 k1 k2
  exact ⟨adm, cm, adr, c2, e, ⟨hrow, hyl, k0, k1, k2⟩⟩

theorem part_results {W : World} {b : Nat} {s h : Int} {A : Option Addr} {n c : Nat} (hb : W.heap[b]? = some (.cells #[.int .i64 s, .int .i64 h, .slice A n c] 36 (0, 0))) (tmps : Array Value) (ok : Bool) (ht : tmps[8]?.getD undef = .pointer (some ⟨b, 0, none⟩)) (ht2 : tmps[9]?.getD undef = .bool ok) :
    (results Try.f55 tmps).run Try.prog W = .ok (.tuple #[.agg #[.int .i64 s, .int .i64 h, .slice A n c], .bool ok]) W := by
  have r0 : W.cell? ⟨b, 0, none⟩ = some (.int .i64 s) := blk_cell hb 0 _ rfl
  have r1 : W.cell? ⟨b, 1, none⟩ = some (.int .i64 h) := blk_cell hb 1 _ rfl
  have r2 : W.cell? ⟨b, 2, none⟩ = some (.slice A n c) := blk_cell hb 2 _ rfl
  simp [results, Try.results55, go_sem, ht, ht2, r0, r1, r2]
theorem part_store {W : World} {b : Nat} {cs : Array Value} (h : W.heap[b]? = some (.cells cs 36 (0, 0))) (hs : cs.size = 3) (u0 u1 u2 : Value) :
    (((W.setCell ⟨b, 0, none⟩ u0).setCell ⟨b, 1, none⟩ u1).setCell ⟨b, 2, none⟩ u2).heap[b]? = some (.cells #[u0, u1, u2] 36 (0, 0)) := by
  have := blk_set (blk_set (blk_set h 0 u0) 1 u1) 2 u2
  rw [this]
  congr 2
  obtain ⟨l⟩ := cs
  match l, hs with
  | [a, b, c], _ => simp

theorem own_got {w : World} {base : Nat} {e : TypeId} {v : Value} {k : IntKind} {xs : List Int} (h : w.ownsRow base e 1 v xs.length (nums k xs)) (h0 : 0 < xs.length) :
    ∃ g c, v = .slice (some ⟨g, 0, none⟩) xs.length c ∧ ∀ j, j < xs.length → w.cell? ⟨g, j, none⟩ = some (.int k (xs.getD j 0)) := by
  obtain ⟨g, cap, rfl, _, _⟩ := h.form h0
  refine ⟨g, cap, rfl, fun j hj => ?_⟩
  have hq := h.cells (g := g) rfl j (.int k (xs.getD j 0)) (by simp [nums, List.getElem?_eq_getElem hj, List.getD_eq_getElem?_getD])
  rwa [add_plain] at hq

set_option maxHeartbeats 8000000 in
set_option maxRecDepth 100000 in
theorem call_rbef (w : World) (m0 m1 : Value) (m : Mc) (n : Nat) (p : Pt) (s y : Nat) (r : Rl) (adm : Addr) (cm : Nat) (adr : Addr) (cr nr : Nat) (hr : RuleAt w m s y r adm cm adr cr nr) (hs : s < n) (hn6 : n ≤ 6) (hy4 : nr ≤ 4) (hro : r.move = -1 ∨ r.move = 1) (A : Option Addr) (c : Nat)
    (hC : ReadsInt w .i64 A p.cells.length p.cells) (hp : p.Ok) (hl : p.cells.length ≤ 1000000) :
    Calls Try.prog 55 #[.agg #[m0, m1, .slice (some adm) n cm], .agg #[.int .i64 p.state, .int .i64 p.head, .slice A p.cells.length c], .int .i64 s, .int .i64 y] w (Bef w (before p s y r)) := by
  obtain ⟨hp0, hp1⟩ := hp
  obtain ⟨q, hq⟩ : ∃ q, q = p.cells := ⟨_, rfl⟩
  rw [← hq] at hp1 hl hC ⊢
  have hn1 : New w (((w.alloc (.cells #[m0, m1, .slice (some adm) n cm] 24)).alloc (.cells #[.int .i64 p.state, .int .i64 p.head, .slice A q.length c] 36)).alloc (.cells #[.int .i64 0, .int .i64 0, .slice none 0 0] 36)) := (((New.refl w).alloc _).alloc _).alloc _
  obtain ⟨k, hy, k0, k1, k2⟩ := hr.new hn1
  have hb8 : ((((((w.alloc (.cells #[m0, m1, .slice (some adm) n cm] 24)).alloc (.cells #[.int .i64 p.state, .int .i64 p.head, .slice A q.length c] 36)).alloc (.cells #[.int .i64 0, .int .i64 0, .slice none 0 0] 36)).alloc (.cells #[.int .i64 r.write, .int .i64 r.move, .int .i64 r.next] 84)).alloc (.cells #[] 3))).heap[w.heap.size + 1 + 1]? = some (.cells #[.int .i64 0, .int .i64 0, .slice none 0 0] 36 (0, 0)) := (((New.refl _).alloc _).alloc _).blk (heap_alloc_at _ _ _ (by simp))
  have hbr : ((((((w.alloc (.cells #[m0, m1, .slice (some adm) n cm] 24)).alloc (.cells #[.int .i64 p.state, .int .i64 p.head, .slice A q.length c] 36)).alloc (.cells #[.int .i64 0, .int .i64 0, .slice none 0 0] 36)).alloc (.cells #[.int .i64 r.write, .int .i64 r.move, .int .i64 r.next] 84)).alloc (.cells #[] 3))).heap[w.heap.size + 1 + 1 + 1]? = some (.cells #[.int .i64 r.write, .int .i64 r.move, .int .i64 r.next] 84 (0, 0)) := ((New.refl _).alloc _).blk (heap_alloc_at _ _ _ (by simp))
  have hn5 : New w (((((w.alloc (.cells #[m0, m1, .slice (some adm) n cm] 24)).alloc (.cells #[.int .i64 p.state, .int .i64 p.head, .slice A q.length c] 36)).alloc (.cells #[.int .i64 0, .int .i64 0, .slice none 0 0] 36)).alloc (.cells #[.int .i64 r.write, .int .i64 r.move, .int .i64 r.next] 84)).alloc (.cells #[] 3)) := (hn1.alloc _).alloc _
  have ho5 : ((((((w.alloc (.cells #[m0, m1, .slice (some adm) n cm] 24)).alloc (.cells #[.int .i64 p.state, .int .i64 p.head, .slice A q.length c] 36)).alloc (.cells #[.int .i64 0, .int .i64 0, .slice none 0 0] 36)).alloc (.cells #[.int .i64 r.write, .int .i64 r.move, .int .i64 r.next] 84)).alloc (.cells #[] 3))).ownsRow w.heap.size 3 1 (.slice (some ⟨w.heap.size + 1 + 1 + 1 + 1, 0, none⟩) 0 0) ([] : List Int).length (nums .i64 []) := by
    have := World.ownsRow_made (e := 3) (size := 1) (base := w.heap.size) ((((w.alloc (.cells #[m0, m1, .slice (some adm) n cm] 24)).alloc (.cells #[.int .i64 p.state, .int .i64 p.head, .slice A q.length c] 36)).alloc (.cells #[.int .i64 0, .int .i64 0, .slice none 0 0] 36)).alloc (.cells #[.int .i64 r.write, .int .i64 r.move, .int .i64 r.next] 84)) #[] 0 (by simp; omega) (Nat.zero_le _) rfl
    simpa [nums] using this
  have hr5 : ReadsInt (((((w.alloc (.cells #[m0, m1, .slice (some adm) n cm] 24)).alloc (.cells #[.int .i64 p.state, .int .i64 p.head, .slice A q.length c] 36)).alloc (.cells #[.int .i64 0, .int .i64 0, .slice none 0 0] 36)).alloc (.cells #[.int .i64 r.write, .int .i64 r.move, .int .i64 r.next] 84)).alloc (.cells #[] 3)) .i64 A q.length q := hC.below hn5.below
  have HQ := Lib.hid hq; have HC := Lib.hid hC; have HB8 := Lib.hid hb8; have HBR := Lib.hid hbr; have HN5 := Lib.hid hn5; have HO5 := Lib.hid ho5; have HR5 := Lib.hid hr5
  clear hr hn1 hC hb8 hq hbr hn5 ho5 hr5
  by_cases hnx : r.next = p.state
  · have hd : (r.next != p.state) = false := by simpa using hnx
    have HNX := Lib.hid hnx
    clear hnx
    by_cases c1 : p.head - r.move < 0
    · have he : before p s y r = some ⟨s, 0, y :: q⟩ := by unfold before; rw [if_neg (by simp [HNX.out])]; dsimp only; rw [if_pos c1, HQ.out]
      rw [he]
      clear he
      as_aux_lemma =>
        go_enter Try.func55, Try.ntmps55
        go_wp2_with (first
          | (at_builtin; refine print_append_row (w0 := w) w.heap.size rfl (.tmp 32) (.tmp 34) 34 3 .i64 8 rfl Try.underlying34 info_int (by decide) (.slice (some ⟨w.heap.size + 1 + 1 + 1 + 1, 0, none⟩) 0 0) [] q A q.length c rfl rfl HO5.out HR5.out HN5.out.below HN5.out.size (by simp; omega) ?_; intro v1 w1 hown hb hg hat; rw [List.nil_append] at hown; obtain ⟨A1, cc1, hv1⟩ := own_slice hown; have hb8 := (hg.block (w.heap.size + 1 + 1) (by simp) (by simp [Value.ownBlock])).trans HB8.out; have hbr := (hg.block (w.heap.size + 1 + 1 + 1) (by simp) (by simp [Value.ownBlock])).trans HBR.out; have x0 := blk_cell hbr 0 _ rfl; have HOWN := Lib.hid hown; have HN6 : Hid (New w w1) := Lib.hid ⟨hb⟩; have HB9 := Lib.hid hb8; have z0 := blk_cell hb8 0 _ rfl; have z1 := blk_cell hb8 1 _ rfl; have z2 := blk_cell hb8 2 _ rfl; have f0 := blk_free hb8 0; have f1 := blk_free hb8 1; have f2 := blk_free hb8 2; subst hv1; clear hown hb hg hat hb8 hbr)
          | (at_builtin; refine print_append_row (w0 := w) w.heap.size rfl (.tmp 44) (.tmp 45) 34 3 .i64 8 rfl Try.underlying34 info_int (by decide) (.slice (some ⟨w1.heap.size, 0, none⟩) 1 1) [(y : Int)] q A1 q.length cc1 rfl rfl (own_lit (y : Int) (heap_alloc_new w1 _) HN6.out.size) ((C_reads (Kd.R_reads' (R_of_own HOWN.out)).2.2).below ((New.refl w1).alloc _).below) (HN6.out.alloc _).below (HN6.out.alloc _).size (by simp; omega) ?_; intro v2 w2 hown hb hg hat; obtain ⟨A2, cc2, hv2⟩ := own_slice hown; generalize hL2 : ([(y : Int)] ++ q).length = L2 at hv2 hown; have hb8 := (hg.block (w.heap.size + 1 + 1) (by have := blk_lt' HB9.out; simp; omega) (by have := blk_lt' HB9.out; simp [Value.ownBlock]; omega)).trans (((New.refl w1).alloc _).blk HB9.out); have HO2 := Lib.hid hown; have HN7 : Hid (New w w2) := Lib.hid ⟨hb⟩; have HB10 := Lib.hid hb8; have HL2 := Lib.hid hL2; clear z0 z1 z2 f0 f1 f2; have z0 := blk_cell hb8 0 _ rfl; have z1 := blk_cell hb8 1 _ rfl; have z2 := blk_cell hb8 2 _ rfl; have f0 := blk_free hb8 0; have f1 := blk_free hb8 1; have f2 := blk_free hb8 2; subst hv2; clear hown hb hg hat hb8 hL2))
        have hb9 := part_store HB10.out rfl (.int .i64 s) (.int .i64 0) (.slice A2 L2 cc2)
        have hn9 : New w (((w2.setCell ⟨w.heap.size + 1 + 1, 0, none⟩ (.int .i64 s)).setCell ⟨w.heap.size + 1 + 1, 1, none⟩ (.int .i64 0)).setCell ⟨w.heap.size + 1 + 1, 2, none⟩ (.slice A2 L2 cc2)) := ((HN7.out.set (p := ⟨w.heap.size + 1 + 1, 0, none⟩) (by show w.heap.size ≤ w.heap.size + 1 + 1; omega) _).set (p := ⟨w.heap.size + 1 + 1, 1, none⟩) (by show w.heap.size ≤ w.heap.size + 1 + 1; omega) _).set (p := ⟨w.heap.size + 1 + 1, 2, none⟩) (by show w.heap.size ≤ w.heap.size + 1 + 1; omega) _
        have ho9 := own_set_blk (own_set_blk (own_set_blk HO2.out HB10.out (by decide) 0 (.int .i64 s)) (blk_set HB10.out 0 _) (by decide) 1 (.int .i64 0)) (blk_set (blk_set HB10.out 0 _) 1 _) (by decide) 2 (.slice A2 L2 cc2)
        generalize (((w2.setCell ⟨w.heap.size + 1 + 1, 0, none⟩ (.int .i64 s)).setCell ⟨w.heap.size + 1 + 1, 1, none⟩ (.int .i64 0)).setCell ⟨w.heap.size + 1 + 1, 2, none⟩ (.slice A2 L2 cc2)) = W9 at hb9 hn9 ho9 ⊢
        refine bodyPost_ret (part_results hb9 _ true rfl rfl) rfl ?_
        exact ⟨hn9, _, rfl, by have h := HL2.out; subst h; exact ho9⟩
    · by_cases c2 : p.head - r.move = q.length
      · have he : before p s y r = some ⟨s, q.length, q ++ [(y : Int)]⟩ := by unfold before; rw [if_neg (by simp [HNX.out])]; dsimp only; rw [if_neg c1, ← HQ.out, if_pos c2, c2]
        rw [he]
        have hd2 : decide (p.head - r.move < 0) = false := by simpa using c1
        have hd3 : (p.head - r.move == (q.length : Int)) = true := by simpa using c2
        have C2 := Lib.hid c2
        clear he c2
        as_aux_lemma =>
          go_enter Try.func55, Try.ntmps55
          go_wp2_with (first
            | (at_builtin; refine print_append_row (w0 := w) w.heap.size rfl (.tmp 32) (.tmp 34) 34 3 .i64 8 rfl Try.underlying34 info_int (by decide) (.slice (some ⟨w.heap.size + 1 + 1 + 1 + 1, 0, none⟩) 0 0) [] q A q.length c rfl rfl HO5.out HR5.out HN5.out.below HN5.out.size (by simp; omega) ?_; intro v1 w1 hown hb hg hat; rw [List.nil_append] at hown; obtain ⟨A1, cc1, hv1⟩ := own_slice hown; have hb8 := (hg.block (w.heap.size + 1 + 1) (by simp) (by simp [Value.ownBlock])).trans HB8.out; have hbr := (hg.block (w.heap.size + 1 + 1 + 1) (by simp) (by simp [Value.ownBlock])).trans HBR.out; have x0 := blk_cell hbr 0 _ rfl; have HOWN := Lib.hid hown; have HN6 : Hid (New w w1) := Lib.hid ⟨hb⟩; have HB9 := Lib.hid hb8; have z0 := blk_cell hb8 0 _ rfl; have z1 := blk_cell hb8 1 _ rfl; have z2 := blk_cell hb8 2 _ rfl; have f0 := blk_free hb8 0; have f1 := blk_free hb8 1; have f2 := blk_free hb8 2; subst hv1; clear hown hb hg hat hb8 hbr)
            | (at_builtin; refine app_i64 (W := w1) w.heap.size rfl (.tmp 52) (.tmp 54) rfl (.slice A1 q.length cc1) q (y : Int) rfl rfl HOWN.out HN6.out.size (by omega) ?_; intro g cc2 w2 hown hchg hat; have hb8 := hchg.blk HB9.out (own_not_blk HOWN.out HB9.out (by decide)); have HO2 := Lib.hid hown; have HN7 : Hid (New w w2) := Lib.hid ⟨HN6.out.below.trans (hchg.below HN6.out.size (fun k hk => own_base HOWN.out k hk))⟩; have HB10 := Lib.hid hb8; clear z0 z1 z2 f0 f1 f2; have z0 := blk_cell hb8 0 _ rfl; have z1 := blk_cell hb8 1 _ rfl; have z2 := blk_cell hb8 2 _ rfl; have f0 := blk_free hb8 0; have f1 := blk_free hb8 1; have f2 := blk_free hb8 2; clear hown hchg hat hb8))
          have hb9 := part_store HB10.out rfl (.int .i64 s) (.int .i64 (p.head - r.move)) (.slice (some ⟨g, 0, none⟩) (q.length + 1) cc2)
          have hn9 : New w (((w2.setCell ⟨w.heap.size + 1 + 1, 0, none⟩ (.int .i64 s)).setCell ⟨w.heap.size + 1 + 1, 1, none⟩ (.int .i64 (p.head - r.move))).setCell ⟨w.heap.size + 1 + 1, 2, none⟩ (.slice (some ⟨g, 0, none⟩) (q.length + 1) cc2)) := ((HN7.out.set (p := ⟨w.heap.size + 1 + 1, 0, none⟩) (by show w.heap.size ≤ w.heap.size + 1 + 1; omega) _).set (p := ⟨w.heap.size + 1 + 1, 1, none⟩) (by show w.heap.size ≤ w.heap.size + 1 + 1; omega) _).set (p := ⟨w.heap.size + 1 + 1, 2, none⟩) (by show w.heap.size ≤ w.heap.size + 1 + 1; omega) _
          have ho9 := own_set_blk (own_set_blk (own_set_blk HO2.out HB10.out (by decide) 0 (.int .i64 s)) (blk_set HB10.out 0 _) (by decide) 1 (.int .i64 (p.head - r.move))) (blk_set (blk_set HB10.out 0 _) 1 _) (by decide) 2 (.slice (some ⟨g, 0, none⟩) (q.length + 1) cc2)
          generalize (((w2.setCell ⟨w.heap.size + 1 + 1, 0, none⟩ (.int .i64 s)).setCell ⟨w.heap.size + 1 + 1, 1, none⟩ (.int .i64 (p.head - r.move))).setCell ⟨w.heap.size + 1 + 1, 2, none⟩ (.slice (some ⟨g, 0, none⟩) (q.length + 1) cc2)) = W9 at hb9 hn9 ho9 ⊢
          refine bodyPost_ret (part_results hb9 _ true rfl rfl) rfl ?_
          exact ⟨hn9, _, by rw [C2.out], ho9⟩
      · have c3 : p.head - r.move < q.length := by omega
        have hd2 : decide (p.head - r.move < 0) = false := by simpa using c1
        have hd3 : (p.head - r.move == (q.length : Int)) = false := by simpa using c2
        by_cases c4 : q.getD (p.head - r.move).toNat 0 = r.write
        · have he : before p s y r = some ⟨s, p.head - r.move, q.set (p.head - r.move).toNat y⟩ := by unfold before; rw [if_neg (by simp [HNX.out])]; dsimp only; rw [if_neg c1, ← HQ.out, if_neg c2, if_neg (by simpa using c4)]
          rw [he]
          have C4 := Lib.hid c4
          clear he c2
          as_aux_lemma =>
            go_enter Try.func55, Try.ntmps55
            go_wp2_with (at_builtin; refine print_append_row (w0 := w) w.heap.size rfl (.tmp 32) (.tmp 34) 34 3 .i64 8 rfl Try.underlying34 info_int (by decide) (.slice (some ⟨w.heap.size + 1 + 1 + 1 + 1, 0, none⟩) 0 0) [] q A q.length c rfl rfl HO5.out HR5.out HN5.out.below HN5.out.size (by simp; omega) ?_; intro v1 w1 hown hb hg hat; rw [List.nil_append] at hown; obtain ⟨A1, cc1, hv1⟩ := own_slice hown; have hb8 := (hg.block (w.heap.size + 1 + 1) (by simp) (by simp [Value.ownBlock])).trans HB8.out; have hbr := (hg.block (w.heap.size + 1 + 1 + 1) (by simp) (by simp [Value.ownBlock])).trans HBR.out; have x0 := blk_cell hbr 0 _ rfl; have HOWN := Lib.hid hown; have HN6 : Hid (New w w1) := Lib.hid ⟨hb⟩; have HB9 := Lib.hid hb8; have z0 := blk_cell hb8 0 _ rfl; have z1 := blk_cell hb8 1 _ rfl; have z2 := blk_cell hb8 2 _ rfl; have f0 := blk_free hb8 0; have f1 := blk_free hb8 1; have f2 := blk_free hb8 2; subst hv1; clear hown hb hg hat hb8 hbr; obtain ⟨gg, ccg, hgv, hgc⟩ := own_got HOWN.out (by omega); injection hgv with e1 e2 e3; subst e1; subst e3; have hcell := hgc (p.head - r.move).toNat (by omega); rw [c4] at hcell; have hfz : w1.frozen? ⟨gg, (p.head - r.move).toNat, none⟩ = false := (by obtain ⟨cells, hcs⟩ := own_typed HOWN.out gg rfl; exact blk_free hcs _); have hgb : ¬ gg = w.heap.size + 1 + 1 := (fun e => own_not_blk HOWN.out HB9.out (by decide) (by subst e; rfl)); have hgb2 : ¬ w.heap.size + 1 + 1 = gg := (fun e => hgb e.symm); clear e2 hgc c4)
            go_quiet (fail)
            go_wp2
            have hn2 : New w ((w1.drewN nq).setCell ⟨gg, (p.head - r.move).toNat, none⟩ (.int .i64 y)) := (HN6.out.drewN nq).set (p := ⟨gg, (p.head - r.move).toNat, none⟩) (own_base HOWN.out gg rfl) _
            have hb2 : ((w1.drewN nq).setCell ⟨gg, (p.head - r.move).toNat, none⟩ (.int .i64 y)).heap[w.heap.size + 1 + 1]? = some (.cells #[.int .i64 0, .int .i64 0, .slice none 0 0] 36 (0, 0)) := (Below.heap_setCell _ _ _ _ (by exact hgb2)).trans HB9.out
            have ho2 := (World.ownsRow.stored (own_move (w1 := w1.drewN nq) HOWN.out (fun k hk => rfl)) (p.head - r.move).toNat (.int .i64 y)).1
            have e5 : (nums .i64 q).set (p.head - r.move).toNat (.int .i64 y) = nums .i64 (q.set (p.head - r.move).toNat y) := by simp [nums, List.map_set]
            rw [e5] at ho2
            generalize ((w1.drewN nq).setCell ⟨gg, (p.head - r.move).toNat, none⟩ (.int .i64 y)) = w2 at hn2 hb2 ho2 ⊢
            have HN7 := Lib.hid hn2; have HB10 := Lib.hid hb2; have HO2 := Lib.hid ho2
            clear e5
            have hb9 := part_store HB10.out rfl (.int .i64 s) (.int .i64 (p.head - r.move)) (.slice (some ⟨gg, 0, none⟩) q.length cc1)
            have hn9 : New w (((w2.setCell ⟨w.heap.size + 1 + 1, 0, none⟩ (.int .i64 s)).setCell ⟨w.heap.size + 1 + 1, 1, none⟩ (.int .i64 (p.head - r.move))).setCell ⟨w.heap.size + 1 + 1, 2, none⟩ (.slice (some ⟨gg, 0, none⟩) q.length cc1)) := ((HN7.out.set (p := ⟨w.heap.size + 1 + 1, 0, none⟩) (by show w.heap.size ≤ w.heap.size + 1 + 1; omega) _).set (p := ⟨w.heap.size + 1 + 1, 1, none⟩) (by show w.heap.size ≤ w.heap.size + 1 + 1; omega) _).set (p := ⟨w.heap.size + 1 + 1, 2, none⟩) (by show w.heap.size ≤ w.heap.size + 1 + 1; omega) _
            have ho9 := own_set_blk (own_set_blk (own_set_blk HO2.out HB10.out (by decide) 0 (.int .i64 s)) (blk_set HB10.out 0 _) (by decide) 1 (.int .i64 (p.head - r.move))) (blk_set (blk_set HB10.out 0 _) 1 _) (by decide) 2 (.slice (some ⟨gg, 0, none⟩) q.length cc1)
            generalize (((w2.setCell ⟨w.heap.size + 1 + 1, 0, none⟩ (.int .i64 s)).setCell ⟨w.heap.size + 1 + 1, 1, none⟩ (.int .i64 (p.head - r.move))).setCell ⟨w.heap.size + 1 + 1, 2, none⟩ (.slice (some ⟨gg, 0, none⟩) q.length cc1)) = W9 at hb9 hn9 ho9 ⊢
            refine bodyPost_ret (part_results hb9 _ true rfl rfl) rfl ?_
            exact ⟨hn9, _, rfl, by rw [List.length_set]; exact ho9⟩
        · have he : before p s y r = none := by unfold before; rw [if_neg (by simp [HNX.out])]; dsimp only; rw [if_neg c1, ← HQ.out, if_neg c2, if_pos c4]
          rw [he]
          clear he c2
          as_aux_lemma =>
            go_enter Try.func55, Try.ntmps55
            go_wp2_with (at_builtin; refine print_append_row (w0 := w) w.heap.size rfl (.tmp 32) (.tmp 34) 34 3 .i64 8 rfl Try.underlying34 info_int (by decide) (.slice (some ⟨w.heap.size + 1 + 1 + 1 + 1, 0, none⟩) 0 0) [] q A q.length c rfl rfl HO5.out HR5.out HN5.out.below HN5.out.size (by simp; omega) ?_; intro v1 w1 hown hb hg hat; rw [List.nil_append] at hown; obtain ⟨A1, cc1, hv1⟩ := own_slice hown; have hb8 := (hg.block (w.heap.size + 1 + 1) (by simp) (by simp [Value.ownBlock])).trans HB8.out; have hbr := (hg.block (w.heap.size + 1 + 1 + 1) (by simp) (by simp [Value.ownBlock])).trans HBR.out; have x0 := blk_cell hbr 0 _ rfl; have HOWN := Lib.hid hown; have HN6 : Hid (New w w1) := Lib.hid ⟨hb⟩; have HB9 := Lib.hid hb8; have z0 := blk_cell hb8 0 _ rfl; have z1 := blk_cell hb8 1 _ rfl; have z2 := blk_cell hb8 2 _ rfl; have f0 := blk_free hb8 0; have f1 := blk_free hb8 1; have f2 := blk_free hb8 2; subst hv1; clear hown hb hg hat hb8 hbr; obtain ⟨gg, ccg, hgv, hgc⟩ := own_got HOWN.out (by omega); injection hgv with e1 e2 e3; subst e1; subst e3; have hcell := hgc (p.head - r.move).toNat (by omega); generalize q.getD (p.head - r.move).toNat 0 = vv at hcell c4; have hvb : (vv != r.write) = true := (by simpa using c4); clear e2 hgc c4)
            go_quiet (fail)
            go_wp2
            have hb9 := part_store (W := w1.drewN nq) HB9.out rfl (.int .i64 0) (.int .i64 0) (.slice none 0 0)
            have hn9 : New w ((((w1.drewN nq).setCell ⟨w.heap.size + 1 + 1, 0, none⟩ (.int .i64 0)).setCell ⟨w.heap.size + 1 + 1, 1, none⟩ (.int .i64 0)).setCell ⟨w.heap.size + 1 + 1, 2, none⟩ (.slice none 0 0)) := (((HN6.out.drewN nq).set (p := ⟨w.heap.size + 1 + 1, 0, none⟩) (by show w.heap.size ≤ w.heap.size + 1 + 1; omega) _).set (p := ⟨w.heap.size + 1 + 1, 1, none⟩) (by show w.heap.size ≤ w.heap.size + 1 + 1; omega) _).set (p := ⟨w.heap.size + 1 + 1, 2, none⟩) (by show w.heap.size ≤ w.heap.size + 1 + 1; omega) _
            generalize ((((w1.drewN nq).setCell ⟨w.heap.size + 1 + 1, 0, none⟩ (.int .i64 0)).setCell ⟨w.heap.size + 1 + 1, 1, none⟩ (.int .i64 0)).setCell ⟨w.heap.size + 1 + 1, 2, none⟩ (.slice none 0 0)) = W9 at hb9 hn9 ⊢
            refine bodyPost_ret (part_results hb9 _ false rfl rfl) rfl ?_
            exact ⟨hn9, rfl⟩
  · have he : before p s y r = none := by unfold before; rw [if_pos hnx]
    rw [he]
    have hd : (r.next != p.state) = true := by simpa using hnx
    clear hnx he
    as_aux_lemma =>
      go_enter Try.func55, Try.ntmps55
      go_wp2
      have hb9 : (((((w.alloc (.cells #[m0, m1, .slice (some adm) n cm] 24)).alloc (.cells #[.int .i64 p.state, .int .i64 p.head, .slice A q.length c] 36)).alloc (.cells #[.int .i64 0, .int .i64 0, .slice none 0 0] 36)).alloc (.cells #[.int .i64 r.write, .int .i64 r.move, .int .i64 r.next] 84))).heap[w.heap.size + 1 + 1]? = some (.cells #[.int .i64 0, .int .i64 0, .slice none 0 0] 36 (0, 0)) := ((New.refl _).alloc _).blk (heap_alloc_at _ _ _ (by simp))
      refine bodyPost_ret (part_results hb9 _ false rfl rfl) rfl ?_
      exact ⟨(((((New.refl w).alloc _).alloc _).alloc _).alloc _), rfl⟩
end Go.Proofs.Ytgnhlaonckognaa
