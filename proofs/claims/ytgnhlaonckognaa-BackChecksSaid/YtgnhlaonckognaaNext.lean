/- back.next walked: the next level. Conditions: a right machine, a level of at most 2000 right elements. -/
import Derived.Test.YtgnhlaonckognaaCompactX
import Derived.Test.YtgnhlaonckognaaNextPlain
namespace Go.Proofs.Ytgnhlaonckognaa
open Go.RowKit Go.Proofs.YtgnhlaonckognaaW.PrintWords
set_option linter.unusedVariables false
set_option linter.unusedSimpArgs false

/-- A list of the call's own that lies in none of the blocks ks. -/
def PtsK (w : World) (base : Nat) (ks : List Nat) (v : Value) (l : List Pt) : Prop := Kd.R kPt 36 w base (fun k => k ∉ ks) v l
theorem PtsK.new {w w1 : World} {base : Nat} {ks : List Nat} {v : Value} {l : List Pt} (h : PtsK w base ks v l) (hn : New w w1) : PtsK w1 base ks v l := Kd.R_below h hn.below
theorem PtsK.pts {w : World} {base : Nat} {ks : List Nat} {v : Value} {l : List Pt} (h : PtsK w base ks v l) : PtsM w base v l := Kd.R_mono h fun _ _ => trivial
theorem PtsK.nil (w : World) (base : Nat) (ks : List Nat) : PtsK w base ks (.slice none 0 0) [] := Kd.R_nil _ _ _ _ _
theorem PtsK.more {w w1 : World} {base : Nat} {ks : List Nat} {v : Value} {l : List Pt} (h : PtsK w base ks v l) (hn : New w w1) : PtsK w1 base (w.heap.size :: ks) v l :=
  Kd.R_below (Kd.R_mono (Kd.R_bound h) fun k hk => by
    simp only [List.mem_cons, not_or]
    exact ⟨by have := hk.2.2.1; omega, hk.1⟩) hn.below
theorem PtsK.less {w : World} {base b : Nat} {ks : List Nat} {v : Value} {l : List Pt} (h : PtsK w base (b :: ks) v l) : PtsK w base ks v l :=
  Kd.R_mono h fun k hk => fun h' => hk (List.mem_cons_of_mem _ h')
theorem M_ptk {w : World} {base base' n : Nat} {v : Value} {inner : List Value} {p : Pt} {v2 : Value} (ks : List Nat) (h2 : w.ownsRow base 3 1 v2 p.cells.length (nums .i64 p.cells)) (h : w.ownsRow base' 36 3 v n inner) (hk2 : ∀ k, v2.ownBlock = some k → k ∉ ks) :
    kPt.M w base (fun k => k ∉ ks ∧ some k ≠ v.ownBlock) p [.int .i64 p.state, .int .i64 p.head, v2] := by
  refine ⟨[.int .i64 p.state], [.int .i64 p.head, v2], rfl, rfl, ⟨[.int .i64 p.head], [v2], rfl, rfl, ⟨v2, rfl, ?_⟩⟩⟩
  refine ⟨fun k hk => ⟨hk2 k hk, ?_⟩, (R_of_own h2).2⟩
  rcases own_type_ne h2 h (by decide) with e | e
  · rw [e] at hk; cases hk
  · rw [← hk]; exact e
/-- 'append(v, p)', a list that lies in none of the blocks ks: these stay. -/
theorem app_ptk {ops : Array Oper} {rest : List Oper} {o : Oper} {a : Act} {Q : Exit → Act → World → Prop} {w W : World} (ks : List Nat) (hks : ∀ k ∈ ks, k < W.heap.size) (hgd : o.guard = none) (s x : Operand)
    (ho : o.op = .call { callee := .builtin .append, args := #[s, x], argTypes := #[25, 25] }) (v : Value) (xs : List Pt) (p : Pt) (v2 : Value) (kb : Nat) (hkb : W.heap.size = kb) (hs : a.eval s = v)
    (hx : a.eval x = .slice (some ⟨kb, 0, none⟩) 1 1) (HO : PtsK W w.heap.size ks v xs) (h2 : W.ownsRow w.heap.size 3 1 v2 p.cells.length (nums .i64 p.cells)) (hk2 : ∀ k, v2.ownBlock = some k → k ∉ ks) (hn : New w W) (hl : xs.length ≤ 1000000000)
    (h : ∀ v1 w1, PtsK w1 w.heap.size ks v1 (xs ++ [p]) → New w w1 → (∀ k ∈ ks, w1.heap[k]? = W.heap[k]?) → wpList Try.prog ops Q rest (a.put o.dst v1) w1) :
    wpList Try.prog ops Q (o :: rest) a (W.alloc (.cells [.int .i64 p.state, .int .i64 p.head, v2].toArray 36)) := by
  subst hkb
  obtain ⟨inner, hown⟩ := Kd.R_own HO
  refine Kd.R_append kPt (w0 := w) w.heap.size hgd s x 25 36 (.agg #[.int .i64 0, .int .i64 0, .slice none 0 0]) 40 ho Try.underlying25 info_pt rfl (by decide) (by decide) v xs p [.int .i64 p.state, .int .i64 p.head, v2] (fun k => k ∉ ks) (fun k => k ∉ ks ∧ some k ≠ v.ownBlock) hs hx (M_ptk ks h2 hown hk2) (fun k hk => hk) (fun k hk hm => by have := hks k hm; omega) HO hn.below hn.size (by omega) ?_
  intro v1 w1 hR hb hg hat
  exact h v1 w1 hR ⟨hb⟩ (fun k hk => hg.block k (hks k hk) (fun e => HO.1 k e.symm hk))

theorem PtsM.chg_new {w wr w2 : World} {v : Value} {l : List Pt} (hn : New w wr) (h : PtsM wr w.heap.size v l) (hc : Chg (fun k => v.ownBlock = some k) wr w2) : New w w2 := by
  obtain ⟨inner, ho⟩ := Kd.R_own h
  exact ⟨hn.below.trans (hc.below hn.size fun k hk => own_base ho k hk)⟩

/-- What holds at each turn of next's loops: w grown, the blocks of the machine and of p. -/
structure NxAt (w : World) (box : Array Value) (wr : World) : Prop where
  new : New w wr
  b1 : wr.heap[w.heap.size]? = some (.cells box 24 (0, 0))
structure NxAt2 (w : World) (box : Array Value) (bp : Nat) (pc : Array Value) (wr : World) : Prop where
  new : New w wr
  b1 : wr.heap[w.heap.size]? = some (.cells box 24 (0, 0))
  b2 : wr.heap[bp]? = some (.cells pc 36 (0, 0))
theorem NxAt2.grow {w wr w2 : World} {box pc : Array Value} {bp : Nat} (h : NxAt2 w box bp pc wr) (hn : New wr w2) : NxAt2 w box bp pc w2 := ⟨h.new.trans hn, hn.blk h.b1, hn.blk h.b2⟩
theorem NxAt2.app {w wr w2 : World} {box pc : Array Value} {bp : Nat} (h : NxAt2 w box bp pc wr) (hn : New w w2) (hk : ∀ k ∈ [bp, w.heap.size], w2.heap[k]? = wr.heap[k]?) : NxAt2 w box bp pc w2 := ⟨hn, (hk _ (by simp)).trans h.b1, (hk _ (by simp)).trans h.b2⟩
theorem NxAt2.up {w wr : World} {box pc : Array Value} {bp : Nat} (h : NxAt2 w box bp pc wr) : NxAt w box wr := ⟨h.new, h.b1⟩
theorem NxAt2.lt {w wr : World} {box pc : Array Value} {bp : Nat} (h : NxAt2 w box bp pc wr) : ∀ k ∈ [bp, w.heap.size], k < wr.heap.size := by
  intro k hk
  simp only [List.mem_cons, List.not_mem_nil, or_false] at hk
  rcases hk with rfl | rfl
  · exact blk_lt' h.b2
  · exact blk_lt' h.b1
theorem NxAt2.off {w wr w2 : World} {box pc : Array Value} {bp : Nat} {e : TypeId} {size n : Nat} {v : Value} {xs : List Value} (h : NxAt2 w box bp pc wr) (ho : w2.ownsRow wr.heap.size e size v n xs) : ∀ k, v.ownBlock = some k → ¬ k ∈ [bp, w.heap.size] := by
  intro k hk hm
  have := h.lt k hm
  have := own_base ho k hk
  omega
def NextRel (w : World) (box : Array Value) (m : Mc) (l : List Pt) (gk : Nat) (v5 v16 : Value) (wr : World) : Prop :=
  ∃ i : Nat, v16 = .int .i64 i ∧ i + gk = l.length ∧ PtsK wr w.heap.size [w.heap.size] v5 (predsL m (l.take i)) ∧ NxAt w box wr
def NextRel2 (w : World) (box : Array Value) (bp : Nat) (pc : Array Value) (m : Mc) (pre : List Pt) (p : Pt) (gk : Nat) (v5 v23 : Value) (wr : World) : Prop :=
  ∃ j : Nat, v23 = .int .i64 j ∧ j + gk = m.rules.length ∧ PtsK wr w.heap.size [bp, w.heap.size] v5 (pre ++ predsRow p (rulesTo m j)) ∧ NxAt2 w box bp pc wr
def NextRel3 (w : World) (box : Array Value) (bp : Nat) (pc : Array Value) (m : Mc) (pre : List Pt) (p : Pt) (j : Nat) (row : List Rl) (gk : Nat) (v5 v30 : Value) (wr : World) : Prop :=
  ∃ x : Nat, v30 = .int .i64 x ∧ x + gk = row.length ∧ PtsK wr w.heap.size [bp, w.heap.size] v5 (pre ++ predsRow p (rulesTo m j ++ rowTo j row x)) ∧ NxAt2 w box bp pc wr

theorem pt_cells {w : World} {A : Option Addr} {l : List Pt} (h : Kd.C kPt w A l.length l) (i : Int) (h0 : 0 ≤ i) (h1 : i < l.length) :
    ∃ ad A2 c, A = some ad ∧ w.cell? (ad.add (i.toNat * 3)) = some (.int .i64 (l.getD i.toNat default).state) ∧
      w.cell? ⟨(ad.add (i.toNat * 3)).block, (ad.add (i.toNat * 3)).off + 1, none⟩ = some (.int .i64 (l.getD i.toNat default).head) ∧
      w.cell? ⟨(ad.add (i.toNat * 3)).block, (ad.add (i.toNat * 3)).off + 2, none⟩ = some (.slice A2 (l.getD i.toNat default).cells.length c) ∧
      (Kd.int .i64).C w A2 (l.getD i.toNat default).cells.length (l.getD i.toNat default).cells := by
  obtain ⟨ad, cs, e, hl, hK, hcell⟩ := Kd.C_get h (default : Pt) i h0 h1
  obtain ⟨A2, c, rfl, hc, hC⟩ := kPt_open hK
  have hsz : kPt.sz = 3 := rfl
  rw [hsz] at hcell
  exact ⟨ad, A2, c, e, hcell 0 _ rfl, by rw [← add_field _ _ 1 (by omega)]; exact hcell 1 _ rfl, by rw [← add_field _ _ 2 (by omega)]; exact hcell 2 _ rfl, hC⟩

set_option maxHeartbeats 4000000 in
set_option maxRecDepth 100000 in
theorem call_next (w : World) (m0 m1 m2 : Value) (m : Mc) (hm : MachC w m0 m1 m2 m) (hg : m.Good) (A : Option Addr) (c : Nat) (l : List Pt) (hl : l.length ≤ 2000) (hC : Kd.C kPt w A l.length l) (hok : ∀ p ∈ l, p.Ok ∧ p.cells.length ≤ 1000) :
    Calls Try.prog 33 #[.agg #[m0, m1, m2], .slice A l.length c] w fun e w' => ∃ v, e = .returned v ∧ PtsM w' w.heap.size v (nextL m l) ∧ New w w' := by
  obtain ⟨e0, e1, A0, c0, e2, hc, hF⟩ := hm
  have HM := Lib.hid (show MachC w m0 m1 m2 m from ⟨e0, e1, A0, c0, e2, hc, hF⟩)
  have hsz := hg.sizes
  have HG := Lib.hid hg
  obtain ⟨n, hn⟩ : ∃ n, n = m.rules.length := ⟨_, rfl⟩
  rw [← hn] at e2 hc
  have HN := Lib.hid hn
  have hn6 : n ≤ 6 := by omega
  subst e2
  obtain ⟨n1, hn1⟩ : ∃ n1, n1 = l.length := ⟨_, rfl⟩
  have HL := Lib.hid hn1
  have HC := Lib.hid hC; have HOK := Lib.hid hok
  have hl' : n1 ≤ 2000 := by omega
  rw [← hn1]
  clear hg hF e0 e1 hsz hn hC hok hn1 hl
  have hN1 : NxAt w #[m0, m1, .slice A0 n c0] (w.alloc (.cells #[m0, m1, .slice A0 n c0] 24)) := ⟨(New.refl w).alloc _, heap_alloc_new _ _⟩
  have HN1 := Lib.hid hN1
  clear hN1
  go_enter Try.func33, Try.ntmps33
  go_wp2
  go_loopg [5, 16] n1 (fun gk v5 v16 wr => NextRel w #[m0, m1, .slice A0 n c0] m l gk v5 v16 wr)
  case atStart => exact ⟨0, rfl, by have := HL.out; omega, PtsK.nil _ _ _, HN1.out⟩
  case round =>
    obtain ⟨i, rfl, hi, hpts, hnew⟩ := hrel
    obtain ⟨gk', hgk⟩ : ∃ g, g = gk := ⟨_, rfl⟩
    subst hgk
    have HP := Lib.hid hpts; have HW := Lib.hid hnew; have HI := Lib.hid hi
    clear hpts hnew hi
    by_cases hlt : i < n1
    · obtain ⟨ad, A2, c2, hA, k0, k1, k2, hpC⟩ := pt_cells HC.out (i : Int) (by omega) (by have := HL.out; omega)
      rw [Int.toNat_natCast] at k0 k1 k2 hpC
      obtain ⟨p, hp⟩ : ∃ p, p = l.getD i default := ⟨_, rfl⟩
      rw [← hp] at k0 k1 k2 hpC
      replace k0 := HW.out.new.cell k0
      replace k1 := HW.out.new.cell k1
      replace k2 := HW.out.new.cell k2
      have hli : i < l.length := by have := HL.out; omega
      have hp' : p = l[i] := by rw [hp, List.getD_eq_getElem?_getD, List.getElem?_eq_getElem hli]; rfl
      have hpo := HOK.out p (by rw [hp']; exact List.getElem_mem _)
      have HPO := Lib.hid hpo; have HPE := Lib.hid hp'; have HPC := Lib.hid hpC
      have hm2 : wr.cell? ⟨w.heap.size, 2, none⟩ = some (.slice A0 n c0) := blk_cell HW.out.b1 _ _ rfl
      have hm3 : (wr.alloc (.cells #[.int .i64 p.state, .int .i64 p.head, .slice A2 p.cells.length c2] 36)).cell? ⟨w.heap.size, 2, none⟩ = some (.slice A0 n c0) := Lib.cell?_alloc_some _ hm2
      subst hA
      clear hp hp' hpo hpC
      have hal : New wr (wr.alloc (.cells #[.int .i64 p.state, .int .i64 p.head, .slice A2 p.cells.length c2] 36)) := (New.refl wr).alloc _
      have hN2 : NxAt2 w #[m0, m1, .slice A0 n c0] wr.heap.size #[.int .i64 p.state, .int .i64 p.head, .slice A2 p.cells.length c2] (wr.alloc (.cells #[.int .i64 p.state, .int .i64 p.head, .slice A2 p.cells.length c2] 36)) := ⟨HW.out.new.trans hal, hal.blk HW.out.b1, heap_alloc_new _ _⟩
      have hP2 := HP.out.more hal
      have HN2 := Lib.hid hN2; have HP2 := Lib.hid hP2
      clear hN2 hP2 hal
      go_wp2
      obtain ⟨W2, hW2⟩ : ∃ W2, W2 = wr.alloc (.cells #[.int .i64 p.state, .int .i64 p.head, .slice A2 p.cells.length c2] 36) := ⟨_, rfl⟩
      rw [← hW2] at HN2 HP2 ⊢
      clear hW2 k0 k1 k2 hm2 hm3
      generalize wr.heap.size = bp at HN2 HP2 ⊢
      go_loopg [5, 23] n (fun gk v5 v23 wr2 => NextRel2 w #[m0, m1, .slice A0 n c0] bp #[.int .i64 p.state, .int .i64 p.head, .slice A2 p.cells.length c2] m (predsL m (l.take i)) p gk v5 v23 wr2)
      case atStart => exact ⟨0, rfl, by have := HN.out; omega, by simpa [rulesTo_zero, predsRow] using HP2.out, HN2.out⟩
      case round =>
        obtain ⟨j, rfl, hj, hpts, hnew⟩ := hrel
        obtain ⟨gk2, hgk2⟩ : ∃ g, g = gk := ⟨_, rfl⟩
        subst hgk2
        have HP3 := Lib.hid hpts; have HW3 := Lib.hid hnew; have HJ := Lib.hid hj
        clear hpts hnew hj
        by_cases hlt2 : j < n
        · obtain ⟨ad3, A3, c3', c3, hA3, hc3', hrow, hc3, hC3⟩ := HM.out.row (j : Int) (by omega) (by have := HN.out; omega)
          injection hA3 with hA31 hA32 hA33
          subst hA31
          clear hA32 hA33
          rw [Int.toNat_natCast] at hrow hC3 hc3
          obtain ⟨row, hr⟩ : ∃ row, row = m.rules.getD j [] := ⟨_, rfl⟩
          rw [← hr] at hrow hC3 hc3
          replace hrow := HW3.out.new.cell hrow
          have hjl : j < m.rules.length := by have := HN.out; omega
          have hmem : row ∈ m.rules := by
            rw [hr, List.getD_eq_getElem?_getD, List.getElem?_eq_getElem hjl]; exact List.getElem_mem _
          have hrow4 : row.length ≤ 4 := HG.out.sizes.2 _ hmem
          have HROW := Lib.hid hr; have HC3 := Lib.hid hC3; have HMEM := Lib.hid hmem
          clear hr hC3 hmem
          go_wp2
          go_loopg [5, 30] row.length (fun gk v5 v30 wr3 => NextRel3 w #[m0, m1, .slice (some ad3) n c0] bp #[.int .i64 p.state, .int .i64 p.head, .slice A2 p.cells.length c2] m (predsL m (l.take i)) p j row gk v5 v30 wr3)
          case atStart => exact ⟨0, rfl, by omega, by simpa [rowTo_zero] using HP3.out, HW3.out⟩
          case round =>
            obtain ⟨x, rfl, hx, hpts, hnew⟩ := hrel
            have HP4 := Lib.hid hpts; have HW4 := Lib.hid hnew; have HX := Lib.hid hx
            clear hpts hnew hx
            by_cases hlt3 : x < row.length
            · obtain ⟨ad4, hA4, k0, k1, k2⟩ := rule_cells HC3.out (x : Int) (by omega) (by omega)
              rw [Int.toNat_natCast] at k0 k1 k2
              replace k0 := HW4.out.new.cell k0
              replace k1 := HW4.out.new.cell k1
              replace k2 := HW4.out.new.cell k2
              obtain ⟨q, hq⟩ : ∃ q, q = row.getD x default := ⟨_, rfl⟩
              rw [← hq] at k0 k1 k2
              subst hA4
              have hqm : q ∈ row := by rw [hq, List.getD_eq_getElem?_getD, List.getElem?_eq_getElem hlt3]; exact List.getElem_mem _
              have hmv := (HG.out.rule row HMEM.out q hqm).mv
              have hpr : predsRow p (rulesTo m j ++ rowTo j row (x + 1)) = predsRow p (rulesTo m j ++ rowTo j row x) ++ (before p j x q).toList := by
                rw [rowTo_succ _ _ _ hlt3, ← List.append_assoc, predsRow_snoc, hq, List.getD_eq_getElem?_getD, List.getElem?_eq_getElem hlt3]; rfl
              have hsz2 : (predsL m (l.take i) ++ predsRow p (rulesTo m j ++ rowTo j row x)).length ≤ 100000 := by
                have h6 := HG.out.sizes
                have a1 := predsL_length m 24 (by
                  have := rulesTo_length_le m 4 h6.2 m.rules.length (Nat.le_refl _)
                  rw [rulesTo_all] at this
                  have : m.rules.length * 4 ≤ 6 * 4 := Nat.mul_le_mul_right _ h6.1
                  omega) (l.take i)
                have a2 : (l.take i).length * 24 ≤ 2000 * 24 := Nat.mul_le_mul_right _ (by rw [List.length_take]; omega)
                have a3 := predsRow_length p (rulesTo m j ++ rowTo j row x)
                have a4 := rulesTo_length_le m 4 h6.2 j (by have := HN.out; omega)
                have a5 : j * 4 ≤ 6 * 4 := Nat.mul_le_mul_right _ (by omega)
                rw [List.length_append, rowTo_length _ _ _ (by omega)] at a3
                rw [List.length_append]
                omega
              obtain ⟨acc, hacc⟩ : ∃ acc, acc = predsL m (l.take i) ++ predsRow p (rulesTo m j ++ rowTo j row x) := ⟨_, rfl⟩
              have hp4 := HP4.out
              rw [← hacc] at hp4 hsz2
              obtain ⟨Ao, co, hv⟩ := hp4.pts.shape
              subst hv
              obtain ⟨W3, hW3⟩ : ∃ W3, W3 = wr.alloc (.cells #[.int .i64 q.write, .int .i64 q.move, .int .i64 q.next] 84) := ⟨_, rfl⟩
              have hal : New wr W3 := by rw [hW3]; exact (New.refl wr).alloc _
              have hw3 := HW4.out.grow hal
              have hb0 := blk_cell hw3.b2 0 _ rfl
              have hb1 := blk_cell hw3.b2 1 _ rfl
              have hb2 := blk_cell hw3.b2 2 _ rfl
              have hbef := call_before W3 p j x q A2 c2 (Kd.C_below HPC.out hw3.new.below) HPO.out.1 hmv (by have := HPO.out.2; omega)
              have HP5 := Lib.hid (hp4.new hal)
              have HW5 := Lib.hid hw3; have HACC := Lib.hid hacc; have HPR := Lib.hid hpr; have HS2 := Lib.hid hsz2
              rw [hW3] at hb0 hb1 hb2 hbef
              rw [hW3] at HP5 HW5
              clear hq hqm hmv hpr hsz2 hacc hp4 hw3 hal hW3
              cases hbo : before p j x q with
              | none =>
                rw [hbo] at hbef
                have hpr := HPR.out
                rw [hbo, Option.toList_none, List.append_nil] at hpr
                have HPR2 := Lib.hid hpr; have HB := Lib.hid hbef
                clear hbo hpr hbef
                go_wp2_with (go_at_call 50; refine HB.out.mono ?_; rintro e w2 ⟨hn2, rfl⟩; have HN5 := Lib.hid hn2; clear hn2)
                go_roundg (gk - 1)
                case measure => have := HX.out; omega
                case rel => exact ⟨x + 1, by go_num, by have := HX.out; omega, by
                  rw [HPR2.out, ← HACC.out]
                  exact (HP5.out.new HN5.out).new ((New.refl _).alloc _), (HW5.out.grow HN5.out).grow ((New.refl _).alloc _)⟩
              | some r =>
                rw [hbo] at hbef
                have hpr := HPR.out
                rw [hbo, Option.toList_some] at hpr
                have HPR2 := Lib.hid hpr; have HB := Lib.hid hbef
                clear hbo hpr hbef
                have hsl := HS2.out
                have hacl : acc.length ≤ 1000000000 := Nat.le_trans hsl (by decide)
                clear hsl
                have HACL := Lib.hid hacl
                clear hacl
                go_wp2_with (first
                  | (go_at_call 50; refine HB.out.mono ?_; rintro e w2 ⟨hn2, v, rfl, ho⟩; obtain ⟨Av, cv, hv⟩ := Kd.R_slice (R_of_own ho); subst hv; have hal2 : New w2 (w2.alloc (.cells #[.int .i64 r.state, .int .i64 r.head, .slice Av r.cells.length cv] 36)) := (New.refl w2).alloc _; have HNX := Lib.hid ((HW5.out.grow hn2).grow hal2); have HP6 := Lib.hid ((HP5.out.new hn2).new hal2); have HO6 := Lib.hid (New.own ho hal2); clear hn2 ho hal2)
                  | (at_builtin; refine app_ptk (w := w) (W := w2.alloc (.cells #[.int .i64 r.state, .int .i64 r.head, .slice Av r.cells.length cv] 36)) [bp, w.heap.size] HNX.out.lt rfl (.tmp 44) (.tmp 46) rfl (.slice Ao acc.length co) acc r (.slice Av r.cells.length cv) (w2.heap.size + 1) (by simp) rfl rfl HP6.out (own_weaken HO6.out HW5.out.new.size) (HW5.out.off HO6.out) HNX.out.new HACL.out ?_; intro v4 w4 hp4 hn4 hk4; have HP7 := Lib.hid hp4; have HN7 := Lib.hid (HNX.out.app hn4 hk4); clear hp4 hn4 hk4))
                go_roundg (gk - 1)
                case measure => have := HX.out; omega
                case rel => exact ⟨x + 1, by go_num, by have := HX.out; omega, by
                  rw [HPR2.out, ← List.append_assoc, ← HACC.out]
                  exact HP7.out, HN7.out⟩
            · have hxn := Lib.hid (show x = row.length by have := HX.out; omega)
              go_wp2
              go_roundg (gk2 - 1)
              case measure => have := HJ.out; have := HN.out; omega
              case rel =>
                refine ⟨j + 1, by go_num, by have := HJ.out; have := HN.out; omega, ?_, HW4.out⟩
                have hlt5 : j < m.rules.length := by have := HN.out; omega
                have e : rulesTo m j ++ rowTo j row x = rulesTo m (j + 1) := by
                  rw [rulesTo_succ m j hlt5, hxn.out, HROW.out, List.getD_eq_getElem?_getD, List.getElem?_eq_getElem hlt5]; rfl
                have := HP4.out
                rwa [e] at this
        · have hjn := Lib.hid (show j = m.rules.length by have := HJ.out; have := HN.out; omega)
          go_wp2
          go_roundg (gk' - 1)
          case measure => have := HI.out; have := HL.out; omega
          case rel =>
            refine ⟨i + 1, by go_num, by have := HI.out; have := HL.out; omega, ?_, HW3.out.up⟩
            rw [predsL_take m l i (by have := HL.out; omega), ← HPE.out]
            have := HP3.out.less
            rwa [hjn.out, rulesTo_all] at this
    · have hin := Lib.hid (show i = l.length by have := HI.out; have := HL.out; omega)
      have hpts := HP.out.pts
      rw [hin.out, List.take_length] at hpts
      have hpl : (predsL m l).length ≤ 1000000000 := by
        have h6 := HG.out.sizes
        have a1 := predsL_length m 24 (by
          have := rulesTo_length_le m 4 h6.2 m.rules.length (Nat.le_refl _)
          rw [rulesTo_all] at this
          have : m.rules.length * 4 ≤ 6 * 4 := Nat.mul_le_mul_right _ h6.1
          omega) l
        have : l.length * 24 ≤ 2000 * 24 := Nat.mul_le_mul_right _ (by have := HL.out; omega)
        omega
      have hcl : ∀ p ∈ predsL m l, p.cells.length ≤ 1000000 := fun p hp => Nat.le_trans (predsL_len 1000 (fun q hq => (HOK.out q hq).2) p hp) (by decide)
      obtain ⟨Ao, co, hv⟩ := hpts.shape
      subst hv
      have hsort := call_Sort wr w.heap.size _ _ hpts hcl hpl
      have HS := Lib.hid hsort; have HCL := Lib.hid hcl; have HPL := Lib.hid hpl; have HPT := Lib.hid hpts
      clear hsort hcl hpl hpts
      go_wp2_with (first
        | (go_at_call 51; refine HS.out.mono ?_; rintro e w2 ⟨rfl, l', hp2, hperm, hpair, hch⟩; have hlen := hperm.length_eq; have HNW := Lib.hid (PtsM.chg_new HW.out.new HPT.out hch); have HCM := Lib.hid (call_Compact w2 w.heap.size _ l' hp2 (fun p hp => HCL.out p (hperm.mem_iff.1 hp)) (by rw [hlen]; exact HPL.out)); have HEQ := Lib.hid (compact_sorted hperm hpair); have HP2 := Lib.hid hp2; clear hp2 hperm hpair hch hlen)
        | (go_at_call 53; refine HCM.out.mono ?_; rintro e w3 ⟨v3, rfl, hp3, hch3⟩; have HP3 := Lib.hid hp3; have HCH3 := Lib.hid hch3; clear hp3 hch3))
      go_ret
      exact ⟨_, rfl, by unfold nextL; rw [← HEQ.out]; exact HP3.out, PtsM.chg_new HNW.out HP2.out HCH3.out⟩
end Go.Proofs.Ytgnhlaonckognaa
