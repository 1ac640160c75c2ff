/- back.before walked. Conditions: a partial configuration shorter than 2^40, its head inside. -/
import Derived.Test.YtgnhlaonckognaaBackA
namespace Go.Proofs.Ytgnhlaonckognaa
open Go.RowKit Go.Proofs.YtgnhlaonckognaaW.PrintWords
set_option linter.unusedVariables false
set_option linter.unusedSimpArgs false

/-- What before hands back. -/
def Bef (w : World) (o : Option Pt) (e : Ending) (w' : World) : Prop :=
  New w w' ∧ match o with
  | none => e = .returned (.tuple #[.agg #[.int .i64 0, .int .i64 0, .slice none 0 0], .bool false])
  | some q => ∃ v, e = .returned (.tuple #[.agg #[.int .i64 q.state, .int .i64 q.head, v], .bool true]) ∧ w'.ownsRow w.heap.size 3 1 v q.cells.length (nums .i64 q.cells)
theorem C_at {w : World} {A : Option Addr} {n : Nat} {xs : List Int} (h : (Kd.int .i64).C w A n xs) (i : Int) (h0 : 0 ≤ i) (h1 : i < n) : ∃ ad, A = some ad ∧ w.cell? (ad.add i.toNat) = some (.int .i64 (xs.getD i.toNat 0)) :=
  (C_reads h).at_ i h0 h1

set_option maxHeartbeats 2000000 in
theorem call_before_1 (w : World) (p : Pt) (s x : Int) (r : Rl) (A : Option Addr) (c : Nat) (hC : (Kd.int .i64).C w A p.cells.length p.cells) (h : r.next ≠ p.state) :
    Calls Try.prog 50 #[.agg #[.int .i64 p.state, .int .i64 p.head, .slice A p.cells.length c], .int .i64 s, .int .i64 x, .agg #[.int .i64 r.write, .int .i64 r.move, .int .i64 r.next]] w (Bef w (before p s x r)) := by
  have he : before p s x r = none := by unfold before; rw [if_pos h]
  rw [he]
  have hd : (!(r.next == p.state)) = true := by simpa using h
  clear he hC
  go_enter Try.func50, Try.ntmps50
  go_wp2
  exact bodyPost_ret (v := .tuple #[.agg #[.int .i64 0, .int .i64 0, .slice none 0 0], .bool false]) (by simp [results, Try.results50, go_sem]) rfl ⟨(((New.refl w).alloc _).alloc _).alloc _, rfl⟩

theorem New.own {w w1 : World} {base : Nat} {e : TypeId} {size n : Nat} {v : Value} {xs : List Value} (h : w.ownsRow base e size v n xs) (hn : New w w1) : w1.ownsRow base e size v n xs := pw_own_below h hn.below
theorem New.of_chg {w w1 : World} {S : Nat → Prop} {B : Nat} (h : Chg S w w1) (hS : ∀ k, S k → B ≤ k) (hB : B ≤ w.heap.size) : Below B w w1 := h.below hB hS

/-- The result's three cells are written. -/
theorem set3 {w w2 : World} {b : Nat} {cs : Array Value} (hb : w.heap.size ≤ b) (HB : w2.heap[b]? = some (.cells cs 36 (0, 0))) (hn : New w w2) (u0 u1 u2 : Value) {base n : Nat} {v : Value} {xs : List Value} (HO : w2.ownsRow base 3 1 v n xs) :
    New w (((w2.setCell ⟨b, 0, none⟩ u0).setCell ⟨b, 1, none⟩ u1).setCell ⟨b, 2, none⟩ u2) ∧ (((w2.setCell ⟨b, 0, none⟩ u0).setCell ⟨b, 1, none⟩ u1).setCell ⟨b, 2, none⟩ u2).ownsRow base 3 1 v n xs :=
  ⟨((hn.set (p := ⟨b, 0, none⟩) hb _).set (p := ⟨b, 1, none⟩) hb _).set (p := ⟨b, 2, none⟩) hb _,
    own_set_blk (own_set_blk (own_set_blk HO HB (by decide) 0 _) (blk_set HB 0 _) (by decide) 1 _) (blk_set (blk_set HB 0 _) 1 _) (by decide) 2 _⟩

set_option maxHeartbeats 2000000 in
set_option maxRecDepth 100000 in
theorem call_before_2 (w : World) (p : Pt) (s x : Int) (r : Rl) (A : Option Addr) (c : Nat) (hC : (Kd.int .i64).C w A p.cells.length p.cells) (h : r.next = p.state) (h2 : p.head - r.move < 0) (hh : 0 ≤ p.head) (hh1 : p.head ≤ 1099511627776) (hm0 : -1 ≤ r.move) (hm1 : r.move ≤ 1) (hl : p.cells.length ≤ 1099511627776) :
    Calls Try.prog 50 #[.agg #[.int .i64 p.state, .int .i64 p.head, .slice A p.cells.length c], .int .i64 s, .int .i64 x, .agg #[.int .i64 r.write, .int .i64 r.move, .int .i64 r.next]] w (Bef w (before p s x r)) := by
  have he : before p s x r = some ⟨s, 0, x :: p.cells⟩ := by unfold before; rw [if_neg (by simp [h])]; dsimp only; rw [if_pos h2]
  rw [he]
  have hd : (r.next != p.state) = false := by simpa using h
  have hd2 : decide (p.head - r.move < 0) = true := by simpa using h2
  obtain ⟨q, hq⟩ : ∃ q, q = p.cells := ⟨_, rfl⟩
  rw [← hq] at hC hl ⊢
  have hn1 : New w (((w.alloc (.cells #[.int .i64 p.state, .int .i64 p.head, .slice A q.length c] 36)).alloc (.cells #[.int .i64 r.write, .int .i64 r.move, .int .i64 r.next] 84)).alloc (.cells #[.int .i64 0, .int .i64 0, .slice none 0 0] 36)) := (((New.refl w).alloc _).alloc _).alloc _
  have hb8 := heap_alloc_at (((w.alloc (.cells #[.int .i64 p.state, .int .i64 p.head, .slice A q.length c] 36)).alloc (.cells #[.int .i64 r.write, .int .i64 r.move, .int .i64 r.next] 84))) (.cells #[.int .i64 0, .int .i64 0, .slice none 0 0] 36) (w.heap.size + 1 + 1) (by simp)
  have HC := Lib.hid hC; have HN1 := Lib.hid hn1; have HB8 := Lib.hid hb8
  clear he hC hn1 hb8 hq h
  go_enter Try.func50, Try.ntmps50
  go_wp2_with fail
  refine (call_Clone _ A c q (Kd.C_below HC.out HN1.out.below) (by omega)).mono ?_
  rintro e w1 ⟨v, rfl, hown, hnew⟩
  have HO := Lib.hid (own_weaken hown HN1.out.size); have HW := Lib.hid (HN1.out.trans hnew)
  have HB9 := Lib.hid (hnew.blk HB8.out)
  have HNE := Lib.hid (own_not_blk hown (hnew.blk HB8.out) (by decide))
  clear hown hnew
  go_wp2_with fail
  refine (call_Insert0 _ w.heap.size v q x w1.heap.size (HO.out.alloc _) (heap_alloc_new w1 _) (fun e => Nat.lt_irrefl _ (own_lt HO.out _ e)) (by omega) (Nat.le_trans HW.out.size (by simp))).mono ?_
  rintro e w2 ⟨v2, rfl, hown2, hchg2⟩
  have hb10 := hchg2.blk (((New.refl w1).alloc _).blk HB9.out) HNE.out
  obtain ⟨A2, c2, hv2⟩ := own_slice hown2
  subst hv2
  have HO2 := Lib.hid hown2; have HC2 := Lib.hid hchg2
  clear hown2 hchg2
  have k0 := blk_cell hb10 0 (.int .i64 0) rfl
  have k1 := blk_cell hb10 1 (.int .i64 0) rfl
  have k2 := blk_cell hb10 2 (.slice none 0 0) rfl
  have f0 := blk_free hb10 0
  have f1 := blk_free hb10 1
  have f2 := blk_free hb10 2
  have HB10 := Lib.hid hb10
  clear hb10
  go_wp2
  have hb11 := blk_set (blk_set (blk_set HB10.out 0 (.int .i64 s)) 1 (.int .i64 0)) 2 (.slice A2 (q.length + 1) c2)
  have r0 := blk_cell hb11 0 (.int .i64 s) rfl
  have r1 := blk_cell hb11 1 (.int .i64 0) rfl
  have r2 := blk_cell hb11 2 (.slice A2 (q.length + 1) c2) rfl
  refine bodyPost_ret (v := .tuple #[.agg #[.int .i64 s, .int .i64 0, .slice A2 (q.length + 1) c2], .bool true]) (by simp [results, Try.results50, go_sem, r0, r1, r2]) rfl ?_
  have hnew2 : New w w2 := ⟨(HW.out.alloc _).below.trans (HC2.out.below (Nat.le_trans HW.out.size (by simp)) (fun k hk => own_base HO.out k hk))⟩
  have h3 := set3 (b := w.heap.size + 1 + 1) (by omega) HB10.out hnew2 (.int .i64 s) (.int .i64 0) (.slice A2 (q.length + 1) c2) HO2.out
  exact ⟨h3.1, _, rfl, h3.2⟩

set_option maxHeartbeats 2000000 in
set_option maxRecDepth 100000 in
theorem call_before_3 (w : World) (p : Pt) (s x : Int) (r : Rl) (A : Option Addr) (c : Nat) (hC : (Kd.int .i64).C w A p.cells.length p.cells) (h : r.next = p.state) (h2 : p.head - r.move = p.cells.length) (hh : 0 ≤ p.head) (hh1 : p.head ≤ 1099511627776) (hm0 : -1 ≤ r.move) (hm1 : r.move ≤ 1) (hl : p.cells.length ≤ 1099511627776) :
    Calls Try.prog 50 #[.agg #[.int .i64 p.state, .int .i64 p.head, .slice A p.cells.length c], .int .i64 s, .int .i64 x, .agg #[.int .i64 r.write, .int .i64 r.move, .int .i64 r.next]] w (Bef w (before p s x r)) := by
  have he : before p s x r = some ⟨s, p.cells.length, p.cells ++ [x]⟩ := by unfold before; rw [if_neg (by simp [h])]; dsimp only; rw [if_neg (by omega), if_pos h2, h2]
  rw [he]
  have hd : (r.next != p.state) = false := by simpa using h
  obtain ⟨q, hq⟩ : ∃ q, q = p.cells := ⟨_, rfl⟩
  rw [← hq] at hC hl h2 ⊢
  have hd2 : decide (p.head - r.move < 0) = false := by simp; omega
  have hd3 : (p.head - r.move == (q.length : Int)) = true := by simpa using h2
  have hn1 : New w (((w.alloc (.cells #[.int .i64 p.state, .int .i64 p.head, .slice A q.length c] 36)).alloc (.cells #[.int .i64 r.write, .int .i64 r.move, .int .i64 r.next] 84)).alloc (.cells #[.int .i64 0, .int .i64 0, .slice none 0 0] 36)) := (((New.refl w).alloc _).alloc _).alloc _
  have hb8 := heap_alloc_at (((w.alloc (.cells #[.int .i64 p.state, .int .i64 p.head, .slice A q.length c] 36)).alloc (.cells #[.int .i64 r.write, .int .i64 r.move, .int .i64 r.next] 84))) (.cells #[.int .i64 0, .int .i64 0, .slice none 0 0] 36) (w.heap.size + 1 + 1) (by simp)
  have HC := Lib.hid hC; have HN1 := Lib.hid hn1; have HB8 := Lib.hid hb8; have H2 := Lib.hid h2
  clear he hC hn1 hb8 hq h h2
  go_enter Try.func50, Try.ntmps50
  go_wp2_with fail
  refine (call_Clone _ A c q (Kd.C_below HC.out HN1.out.below) (by omega)).mono ?_
  rintro e w1 ⟨v, rfl, hown, hnew⟩
  have HO := Lib.hid (own_weaken hown HN1.out.size); have HW := Lib.hid (HN1.out.trans hnew)
  have HB9 := Lib.hid (hnew.blk HB8.out)
  have HNE := Lib.hid (own_not_blk hown (hnew.blk HB8.out) (by decide))
  clear hown hnew
  go_wp2_with (at_builtin; refine app_i64 (W := w1) w.heap.size rfl (.tmp 44) (.tmp 46) rfl v q x rfl rfl HO.out HW.out.size (by omega) ?_; intro g c2 w2 hown2 hchg2 hat; have hb10 := hchg2.blk HB9.out HNE.out; have HO2 := Lib.hid hown2; have HC2 := Lib.hid hchg2; have HAT := Lib.hid hat; clear hown2 hchg2 hat; have k0 := blk_cell hb10 0 (.int .i64 0) rfl; have k1 := blk_cell hb10 1 (.int .i64 0) rfl; have k2 := blk_cell hb10 2 (.slice none 0 0) rfl; have f0 := blk_free hb10 0; have f1 := blk_free hb10 1; have f2 := blk_free hb10 2; have HB10 := Lib.hid hb10; clear hb10)
  have hb11 := blk_set (blk_set (blk_set HB10.out 0 (.int .i64 s)) 1 (.int .i64 (p.head - r.move))) 2 (.slice (some ⟨g, 0, none⟩) (q.length + 1) c2)
  have r0 := blk_cell hb11 0 (.int .i64 s) rfl
  have r1 := blk_cell hb11 1 (.int .i64 (p.head - r.move)) rfl
  have r2 := blk_cell hb11 2 (.slice (some ⟨g, 0, none⟩) (q.length + 1) c2) rfl
  refine bodyPost_ret (v := .tuple #[.agg #[.int .i64 s, .int .i64 (p.head - r.move), .slice (some ⟨g, 0, none⟩) (q.length + 1) c2], .bool true]) (by simp [results, Try.results50, go_sem, r0, r1, r2]) rfl ?_
  have hnew2 : New w w2 := ⟨HW.out.below.trans (HC2.out.below HW.out.size (fun k hk => own_base HO.out k hk))⟩
  have h3 := set3 (b := w.heap.size + 1 + 1) (by omega) HB10.out hnew2 (.int .i64 s) (.int .i64 (p.head - r.move)) (.slice (some ⟨g, 0, none⟩) (q.length + 1) c2) HO2.out
  exact ⟨h3.1, _, by rw [H2.out], h3.2⟩

set_option maxHeartbeats 2000000 in
set_option maxRecDepth 100000 in
theorem call_before_4 (w : World) (p : Pt) (s x : Int) (r : Rl) (A : Option Addr) (c : Nat) (hC : (Kd.int .i64).C w A p.cells.length p.cells) (h : r.next = p.state) (h1 : 0 ≤ p.head - r.move) (h2 : p.head - r.move < p.cells.length) (hv : p.cells.getD (p.head - r.move).toNat 0 ≠ r.write) (hh : 0 ≤ p.head) (hh1 : p.head ≤ 1099511627776) (hm0 : -1 ≤ r.move) (hm1 : r.move ≤ 1) (hl : p.cells.length ≤ 1099511627776) :
    Calls Try.prog 50 #[.agg #[.int .i64 p.state, .int .i64 p.head, .slice A p.cells.length c], .int .i64 s, .int .i64 x, .agg #[.int .i64 r.write, .int .i64 r.move, .int .i64 r.next]] w (Bef w (before p s x r)) := by
  have he : before p s x r = none := by unfold before; rw [if_neg (by simp [h])]; dsimp only; rw [if_neg (by omega), if_neg (by omega), if_pos hv]
  rw [he]
  obtain ⟨ad, rfl, hcell⟩ := C_at hC (p.head - r.move) h1 h2
  have hd : (r.next != p.state) = false := by simpa using h
  obtain ⟨y, hy⟩ : ∃ y, y = p.cells.getD (p.head - r.move).toNat 0 := ⟨_, rfl⟩
  rw [← hy] at hcell hv
  have hd4 : (y != r.write) = true := by simpa using hv
  generalize p.cells.length = n at *
  have hd2 : decide (p.head - r.move < 0) = false := by simp; omega
  have hd3 : (p.head - r.move == (n : Int)) = false := by simp; omega
  have hn1 : New w (((w.alloc (.cells #[.int .i64 p.state, .int .i64 p.head, .slice (some ad) n c] 36)).alloc (.cells #[.int .i64 r.write, .int .i64 r.move, .int .i64 r.next] 84)).alloc (.cells #[.int .i64 0, .int .i64 0, .slice none 0 0] 36)) := (((New.refl w).alloc _).alloc _).alloc _
  have hcell2 := hn1.cell hcell
  have HN1 := Lib.hid hn1
  clear he hC hn1 hy h hcell hv
  go_enter Try.func50, Try.ntmps50
  go_wp2
  go_quiet (fail)
  go_wp2
  exact bodyPost_ret (v := .tuple #[.agg #[.int .i64 0, .int .i64 0, .slice none 0 0], .bool false]) (by simp [results, Try.results50, go_sem]) rfl ⟨(((HN1.out.drewN _).set (p := ⟨w.heap.size + 1 + 1, 0, none⟩) (by show w.heap.size ≤ w.heap.size + 1 + 1; omega) _).set (p := ⟨w.heap.size + 1 + 1, 1, none⟩) (by show w.heap.size ≤ w.heap.size + 1 + 1; omega) _).set (p := ⟨w.heap.size + 1 + 1, 2, none⟩) (by show w.heap.size ≤ w.heap.size + 1 + 1; omega) _, rfl⟩

set_option maxHeartbeats 2000000 in
set_option maxRecDepth 100000 in
theorem call_before_5 (w : World) (p : Pt) (s x : Int) (r : Rl) (A : Option Addr) (c : Nat) (hC : (Kd.int .i64).C w A p.cells.length p.cells) (h : r.next = p.state) (h1 : 0 ≤ p.head - r.move) (h2 : p.head - r.move < p.cells.length) (hv : p.cells.getD (p.head - r.move).toNat 0 = r.write) (hh : 0 ≤ p.head) (hh1 : p.head ≤ 1099511627776) (hm0 : -1 ≤ r.move) (hm1 : r.move ≤ 1) (hl : p.cells.length ≤ 1099511627776) :
    Calls Try.prog 50 #[.agg #[.int .i64 p.state, .int .i64 p.head, .slice A p.cells.length c], .int .i64 s, .int .i64 x, .agg #[.int .i64 r.write, .int .i64 r.move, .int .i64 r.next]] w (Bef w (before p s x r)) := by
  have he : before p s x r = some ⟨s, p.head - r.move, p.cells.set (p.head - r.move).toNat x⟩ := by unfold before; rw [if_neg (by simp [h])]; dsimp only; rw [if_neg (by omega), if_neg (by omega), if_neg (by simpa using hv)]
  rw [he]
  obtain ⟨ad, rfl, hcell⟩ := C_at hC (p.head - r.move) h1 h2
  have hd : (r.next != p.state) = false := by simpa using h
  obtain ⟨y, hy⟩ : ∃ y, y = p.cells.getD (p.head - r.move).toNat 0 := ⟨_, rfl⟩
  rw [← hy] at hcell hv
  have hd4 : (y != r.write) = false := by simpa using hv
  obtain ⟨q, hq⟩ : ∃ q, q = p.cells := ⟨_, rfl⟩
  rw [← hq] at hC hl h2 ⊢
  have hd2 : decide (p.head - r.move < 0) = false := by simp; omega
  have hd3 : (p.head - r.move == (q.length : Int)) = false := by simp; omega
  have hn1 : New w (((w.alloc (.cells #[.int .i64 p.state, .int .i64 p.head, .slice (some ad) q.length c] 36)).alloc (.cells #[.int .i64 r.write, .int .i64 r.move, .int .i64 r.next] 84)).alloc (.cells #[.int .i64 0, .int .i64 0, .slice none 0 0] 36)) := (((New.refl w).alloc _).alloc _).alloc _
  have hb8 := heap_alloc_at (((w.alloc (.cells #[.int .i64 p.state, .int .i64 p.head, .slice (some ad) q.length c] 36)).alloc (.cells #[.int .i64 r.write, .int .i64 r.move, .int .i64 r.next] 84))) (.cells #[.int .i64 0, .int .i64 0, .slice none 0 0] 36) (w.heap.size + 1 + 1) (by simp)
  have hcell2 := hn1.cell hcell
  have HC := Lib.hid hC; have HN1 := Lib.hid hn1; have HB8 := Lib.hid hb8
  clear he hC hn1 hb8 hq h hcell hv hy
  go_enter Try.func50, Try.ntmps50
  go_wp2
  go_quiet (fail)
  go_wp2_with fail
  refine (call_Clone _ (some ad) c q (Kd.C_below HC.out (HN1.out.drewN _).below) (by omega)).mono ?_
  rintro e w1 ⟨v, rfl, hown, hnew⟩
  have HW := Lib.hid ((HN1.out.drewN _).trans hnew)
  have HB9 := Lib.hid (hnew.blk (by exact HB8.out))
  obtain ⟨g, c2, rfl, _, _⟩ := hown.form (by omega)
  obtain ⟨cur, hcur, hbg, hnc, hcm, hcs, _, hcc⟩ := blk_of_own hown
  have hgs : g < w1.heap.size := blk_lt' hcur
  have hatn : (p.head - r.move).toNat < q.length := by omega
  have kq := blk_cell hcur (p.head - r.move).toNat _ (hcc _ hatn)
  have fq := blk_free hcur (p.head - r.move).toNat
  have hgb : g ≠ w.heap.size + 1 + 1 := fun e => own_not_blk hown HB9.out (by decide) (by subst e; rfl)
  have hst := (own_weaken hown (HN1.out.drewN _).size).stored (p.head - r.move).toNat (.int .i64 x)
  have hb12 : ((w1.setCell ⟨g, (p.head - r.move).toNat, none⟩ (.int .i64 x)).alloc (.cells #[.int .i64 s, .int .i64 (p.head - r.move), .slice (some ⟨g, 0, none⟩) q.length c2] 36)).heap[w.heap.size + 1 + 1]? = some (.cells #[.int .i64 0, .int .i64 0, .slice none 0 0] 36 (0, 0)) := by
    have h5 := (Below.heap_setCell w1 ⟨g, (p.head - r.move).toNat, none⟩ (.int .i64 x) (w.heap.size + 1 + 1) (fun e => hgb e.symm)).trans HB9.out
    exact (Below.heap_alloc _ _ _ (blk_lt' h5)).trans h5
  have HN5 := Lib.hid (show New w ((w1.setCell ⟨g, (p.head - r.move).toNat, none⟩ (.int .i64 x)).alloc (.cells #[.int .i64 s, .int .i64 (p.head - r.move), .slice (some ⟨g, 0, none⟩) q.length c2] 36)) from (HW.out.set (p := ⟨g, _, none⟩) (Nat.le_trans (HN1.out.drewN _).size hbg) _).alloc _)
  have HST := Lib.hid hst.1
  have HB12 := Lib.hid hb12
  have k0 := blk_cell hb12 0 (.int .i64 0) rfl
  have k1 := blk_cell hb12 1 (.int .i64 0) rfl
  have k2 := blk_cell hb12 2 (.slice none 0 0) rfl
  have f0 := blk_free hb12 0
  have f1 := blk_free hb12 1
  have f2 := blk_free hb12 2
  clear hown hnew hcc hst hb12
  go_wp2
  have hb11 := blk_set (blk_set (blk_set HB12.out 0 (.int .i64 s)) 1 (.int .i64 (p.head - r.move))) 2 (.slice (some ⟨g, 0, none⟩) q.length c2)
  have r0 := blk_cell hb11 0 (.int .i64 s) rfl
  have r1 := blk_cell hb11 1 (.int .i64 (p.head - r.move)) rfl
  have r2 := blk_cell hb11 2 (.slice (some ⟨g, 0, none⟩) q.length c2) rfl
  refine bodyPost_ret (v := .tuple #[.agg #[.int .i64 s, .int .i64 (p.head - r.move), .slice (some ⟨g, 0, none⟩) q.length c2], .bool true]) (by simp [results, Try.results50, go_sem, r0, r1, r2]) rfl ?_
  have h3 := set3 (b := w.heap.size + 1 + 1) (by omega) HB12.out HN5.out (.int .i64 s) (.int .i64 (p.head - r.move)) (.slice (some ⟨g, 0, none⟩) q.length c2) (HST.out.alloc _)
  refine ⟨h3.1, _, rfl, ?_⟩
  have h4 := h3.2
  rw [show (nums .i64 q).set (p.head - r.move).toNat (.int .i64 x) = nums .i64 (q.set (p.head - r.move).toNat x) by simp [nums, List.map_set]] at h4
  rw [List.length_set]
  exact h4

/-- back.before. -/
theorem call_before (w : World) (p : Pt) (s x : Int) (r : Rl) (A : Option Addr) (c : Nat) (hC : (Kd.int .i64).C w A p.cells.length p.cells) (hp : p.Ok) (hm : r.move = -1 ∨ r.move = 1) (hl : p.cells.length ≤ 1099511627776) :
    Calls Try.prog 50 #[.agg #[.int .i64 p.state, .int .i64 p.head, .slice A p.cells.length c], .int .i64 s, .int .i64 x, .agg #[.int .i64 r.write, .int .i64 r.move, .int .i64 r.next]] w (Bef w (before p s x r)) := by
  have h0 := hp.h0; have h1 := hp.h1
  by_cases h : r.next = p.state
  · by_cases h2 : p.head - r.move < 0
    · exact call_before_2 w p s x r A c hC h h2 h0 (by omega) (by omega) (by omega) hl
    · by_cases h3 : p.head - r.move = p.cells.length
      · exact call_before_3 w p s x r A c hC h h3 h0 (by omega) (by omega) (by omega) hl
      · by_cases h4 : p.cells.getD (p.head - r.move).toNat 0 = r.write
        · exact call_before_5 w p s x r A c hC h (by omega) (by omega) h4 h0 (by omega) (by omega) (by omega) hl
        · exact call_before_4 w p s x r A c hC h (by omega) (by omega) h4 h0 (by omega) (by omega) (by omega) hl
  · exact call_before_1 w p s x r A c hC h
end Go.Proofs.Ytgnhlaonckognaa
