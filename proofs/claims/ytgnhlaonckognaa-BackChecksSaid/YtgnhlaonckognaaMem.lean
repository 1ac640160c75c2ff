/- Words for memory: what a call may have changed (Chg), a run of the reference in memory. Conditions: none. -/
import Derived.Test.YtgnhlaonckognaaProg
import Derived.Test.YtgnhlaonckognaaRunRef
import Derived.Test.YtgnhlaonckognaaWWords
import Derived.WalkKit
import Derived.KernelRfl
import Derived.Deep.QuietTactic
import Derived.BigQuiet
import Derived.WideLaws
import Derived.Lib.Hide
import Derived.StillTailTactics
import Derived.Deep.RegionHeld3
namespace Go.Proofs.Ytgnhlaonckognaa
open Go.RowKit Go.Proofs.YtgnhlaonckognaaW.PrintWords
set_option linter.unusedVariables false
set_option linter.unusedSimpArgs false

/-- What a call may have changed of what was there: blocks in S. -/
structure Chg (S : Nat → Prop) (w w' : World) : Prop where
  os : w'.os = w.os
  tape : w'.tape = w.tape
  output : w'.output = w.output
  size : w.heap.size ≤ w'.heap.size
  block : ∀ k, k < w.heap.size → ¬ S k → w'.heap[k]? = w.heap[k]?

theorem ret_i {k : IntKind} {a b : Int} (h : a = b) : Ending.returned (.int k a) = .returned (.int k b) := by rw [h]
theorem ret_b {a b : Bool} (h : a = b) : Ending.returned (.bool a) = .returned (.bool b) := by rw [h]

/-- w' is w with new blocks (and stores into these). -/
structure New (w w' : World) : Prop where
  below : Below w.heap.size w w'
theorem New.size {w w' : World} (h : New w w') : w.heap.size ≤ w'.heap.size := h.below.size
theorem New.refl (w : World) : New w w := ⟨Below.refl _ _⟩
theorem New.drew {w w' : World} (h : New w w') : New w w'.drew := ⟨below_drew h.below⟩
theorem New.drewN {w w' : World} (h : New w w') (n : Nat) : New w (w'.drewN n) := ⟨pw_below_drewN h.below n⟩
theorem New.alloc {w w' : World} (h : New w w') (o : Obj) : New w (w'.alloc o) := ⟨below_alloc h.below o⟩
theorem New.set {w w' : World} (h : New w w') {p : Addr} (hp : w.heap.size ≤ p.block) (u : Value) : New w (w'.setCell p u) := ⟨h.below.setCell hp u⟩
theorem New.cell {w w' : World} (h : New w w') {a : Addr} {v : Value} (hc : w.cell? a = some v) : w'.cell? a = some v := pw_cell_below h.below hc
theorem New.blk {w w' : World} (h : New w w') {k : Nat} {o : Obj} (hk : w.heap[k]? = some o) : w'.heap[k]? = some o := (h.below.block k (Array.getElem?_eq_some_iff.1 hk).1).trans hk
theorem New.trans {w w1 w2 : World} (h : New w w1) (k : New w1 w2) : New w w2 := ⟨h.below.trans (k.below.mono h.size)⟩

/-- S, or newer than w. -/
def Sn (S : Nat → Prop) (w : World) : Nat → Prop := fun k => S k ∨ w.heap.size ≤ k

namespace Chg
variable {S S' : Nat → Prop} {w w1 w2 : World}
theorem refl (S : Nat → Prop) (w : World) : Chg S w w := ⟨rfl, rfl, rfl, Nat.le_refl _, fun _ _ _ => rfl⟩
theorem kept (h : Chg S w w1) : Kept w w1 S := ⟨h.size, fun k hk hn => h.block k hk hn⟩
theorem mono (h : Chg S w w1) (hs : ∀ k, S k → S' k) : Chg S' w w1 := ⟨h.os, h.tape, h.output, h.size, fun k hk hn => h.block k hk (fun hk' => hn (hs k hk'))⟩
theorem trans (h : Chg S w w1) (k : Chg (Sn S w) w1 w2) : Chg S w w2 :=
  ⟨k.os.trans h.os, k.tape.trans h.tape, k.output.trans h.output, Nat.le_trans h.size k.size, fun i hi hn =>
    (k.block i (Nat.lt_of_lt_of_le hi h.size) (fun hs => hs.elim hn (fun h' => absurd hi (by omega)))).trans (h.block i hi hn)⟩
theorem trans' (h : Chg S w w1) (k : Chg S w1 w2) : Chg S w w2 := h.trans (k.mono fun _ h => .inl h)
theorem below (h : Chg S w w1) {B : Nat} (hB : B ≤ w.heap.size) (hs : ∀ k, S k → B ≤ k) : Below B w w1 :=
  ⟨h.os, h.tape, h.output, h.size, fun k hk => h.block k (by omega) (fun hS => absurd (hs k hS) (by omega))⟩
theorem of_below (h : Below w.heap.size w w1) (S : Nat → Prop) : Chg S w w1 := ⟨h.os, h.tape, h.output, h.size, fun k hk _ => h.block k hk⟩
theorem alloc (h : Chg S w w1) (o : Obj) : Chg S w (w1.alloc o) :=
  h.trans ⟨rfl, rfl, rfl, by simp, fun k hk _ => Below.heap_alloc _ _ _ hk⟩
theorem drew (h : Chg S w w1) : Chg S w w1.drew := ⟨h.os, h.tape, h.output, h.size, h.block⟩
theorem drewN (h : Chg S w w1) (n : Nat) : Chg S w (w1.drewN n) := ⟨h.os, h.tape, h.output, h.size, h.block⟩
theorem setCell (h : Chg S w w1) {p : Addr} (hp : Sn S w p.block) (u : Value) : Chg S w (w1.setCell p u) :=
  h.trans ⟨rfl, rfl, rfl, by simp [World.setCell], fun k hk hn => Below.heap_setCell _ _ _ _ (fun e => hn (e ▸ hp))⟩
theorem grown (h : Chg S w w1) {row : Option Nat} (hg : w1.grownBy w2 row) (hr : ∀ k, row = some k → Sn S w k) : Chg S w w2 :=
  h.trans ⟨hg.os, hg.tape, hg.output, hg.size, fun k hk hn => hg.block k hk (fun e => hn (hr k e.symm))⟩
theorem blk (h : Chg S w w1) {k : Nat} {o : Obj} (hk : w.heap[k]? = some o) (hn : ¬ S k) : w1.heap[k]? = some o :=
  (h.block k (Array.getElem?_eq_some_iff.1 hk).1 hn).trans hk
end Chg

theorem Sn.mono {S S' : Nat → Prop} {w w1 : World} (hs : ∀ k, S k → S' k) (hw : w.heap.size ≤ w1.heap.size) {k : Nat} (h : Sn S w1 k) : Sn S' w k :=
  h.elim (fun h => .inl (hs k h)) (fun h => .inr (Nat.le_trans hw h))
theorem Sn.sn {S : Nat → Prop} {w w1 : World} (hw : w.heap.size ≤ w1.heap.size) {k : Nat} (h : Sn (Sn S w) w1 k) : Sn S w k :=
  h.elim id (fun h => .inr (Nat.le_trans hw h))

/-- A block of cells known whole: its cells. -/
theorem blk_cell {w : World} {b : Nat} {cs : Array Value} {t : TypeId} {fr : Nat × Nat} (h : w.heap[b]? = some (.cells cs t fr)) (i : Nat) (v : Value) (hv : cs[i]? = some v) : w.cell? ⟨b, i, none⟩ = some v := by
  simp [World.cell?, h, hv]
theorem blk_free {w : World} {b : Nat} {cs : Array Value} {t : TypeId} (h : w.heap[b]? = some (.cells cs t (0, 0))) (i : Nat) : w.frozen? ⟨b, i, none⟩ = false := by
  simp [World.frozen?, h]
theorem blk_set {w : World} {b : Nat} {cs : Array Value} {t : TypeId} {fr : Nat × Nat} (h : w.heap[b]? = some (.cells cs t fr)) (i : Nat) (u : Value) : (w.setCell ⟨b, i, none⟩ u).heap[b]? = some (.cells (cs.setIfInBounds i u) t fr) := by
  simp [World.setCell, Array.getElem?_modify, h]
theorem blk_lt' {w : World} {b : Nat} {o : Obj} (h : w.heap[b]? = some o) : b < w.heap.size := (Array.getElem?_eq_some_iff.1 h).1

theorem heap_alloc_at (w : World) (o : Obj) (n : Nat) (h : w.heap.size = n) : (w.alloc o).heap[n]? = some o := by subst h; exact heap_alloc_new w o
/-- A row of another type is not this block. -/
theorem own_not_blk {w : World} {base : Nat} {e : TypeId} {size n : Nat} {v : Value} {xs : List Value} {b : Nat} {cs : Array Value} {t : TypeId} {fr : Nat × Nat} (h : w.ownsRow base e size v n xs) (hb : w.heap[b]? = some (.cells cs t fr)) (ht : e ≠ t) : ¬ v.ownBlock = some b := by
  intro hk
  obtain ⟨cells, hc⟩ := own_typed h b hk
  rw [hc] at hb
  injection hb with hb
  injection hb with _ hb
  exact ht hb
theorem own_set_blk {w : World} {base : Nat} {e : TypeId} {size n : Nat} {v : Value} {xs : List Value} {b : Nat} {cs : Array Value} {t : TypeId} {fr : Nat × Nat} (h : w.ownsRow base e size v n xs) (hb : w.heap[b]? = some (.cells cs t fr)) (ht : e ≠ t) (i : Nat) (u : Value) :
    (w.setCell ⟨b, i, none⟩ u).ownsRow base e size v n xs :=
  own_move h fun k hk => Below.heap_setCell _ _ _ _ (fun e => own_not_blk h hb ht (by subst e; exact hk))
theorem info_int : (Try.prog.info? 3).map (fun i => (i.zero, i.size, i.bytes)) = some (some (.int .i64 0), 1, 8) := by kernel_rfl

/-- 'append(v, y)', a slice of ints of the call's own. -/
theorem app_i64 {ops : Array Oper} {rest : List Oper} {o : Oper} {a : Act} {Q : Exit → Act → World → Prop} {W : World} (base : Nat) (hgd : o.guard = none) (s x : Operand)
    (ho : o.op = .call { callee := .builtin .append, args := #[s, x], argTypes := #[34, 34] }) (v : Value) (xs : List Int) (y : Int) (hs : a.eval s = v)
    (hx : a.eval x = .slice (some ⟨W.heap.size, 0, none⟩) 1 1) (HO : W.ownsRow base 3 1 v xs.length (nums .i64 xs)) (hbase : base ≤ W.heap.size) (hl : xs.length ≤ 8796093022208)
    (h : ∀ g c w1, w1.ownsRow base 3 1 (.slice (some ⟨g, 0, none⟩) (xs.length + 1) c) (xs ++ [y]).length (nums .i64 (xs ++ [y])) → Chg (fun k => v.ownBlock = some k) W w1 → (v.ownBlock = some g ∨ W.heap.size ≤ g) →
      wpList Try.prog ops Q rest (a.put o.dst (.slice (some ⟨g, 0, none⟩) (xs.length + 1) c)) w1) :
    wpList Try.prog ops Q (o :: rest) a (W.alloc (.cells #[.int .i64 y] 3)) := by
  refine print_append_num (w0 := W) base hgd s x 34 3 .i64 8 ho Try.underlying34 info_int (by decide) v xs y hs hx HO ((Below.refl _ _).mono hbase) hbase (by omega) ?_
  intro v1 w1 hown hbel hgrow hat
  obtain ⟨g, c, rfl⟩ : ∃ g c, v1 = .slice (some ⟨g, 0, none⟩) (xs.length + 1) c := by
    rcases hown.2 with ⟨_, h0⟩ | ⟨g, c, _, h0, _⟩
    · simp at h0
    · exact ⟨g, c, by rw [h0]; simp⟩
  refine h g c w1 hown ((Chg.refl _ _).grown hgrow (fun k hk => .inl hk)) ?_
  rcases hat with hat | ⟨b', hat, hb'⟩
  · exact .inl (by rw [← hat]; rfl)
  · right
    have : g = b' := by simpa [Value.ownBlock] using hat
    omega

/-! ### A machine in memory -/
def kRl : Kd Rl := Kd.iso (Kd.pair (Kd.int .i64) (Kd.pair (Kd.int .i64) (Kd.int .i64))) (fun x : Rl => (x.write, x.move, x.next))
theorem kRl_open {w : World} {x : Rl} {cs : List Value} (h : kRl.K w x cs) : cs = [.int .i64 x.write, .int .i64 x.move, .int .i64 x.next] := by
  obtain ⟨_, _, rfl, rfl, ⟨_, _, rfl, rfl, rfl⟩⟩ := h
  rfl
theorem heap_kRl : Kd.Heap kRl := Kd.heap_iso _ (Kd.heap_pair (Kd.heap_int _) (Kd.heap_pair (Kd.heap_int _) (Kd.heap_int _)))
/-- The machine's three cells, and what they lead to. -/
def MachC (w : World) (m0 m1 m2 : Value) (m : Mc) : Prop :=
  m0 = .int .i64 m.states ∧ m1 = .int .i64 m.symbols ∧ ∃ A c, m2 = .slice A m.rules.length c ∧ m.rules.length ≤ c ∧ Kd.F (Kd.slice 84 kRl) w (fun k => k < w.heap.size) A m.rules.length m.rules
theorem MachC.below {w w1 : World} {m0 m1 m2 : Value} {m : Mc} (h : MachC w m0 m1 m2 m) (hb : Below w.heap.size w w1) : MachC w1 m0 m1 m2 m := by
  obtain ⟨e0, e1, A, c, e2, hc, hF⟩ := h
  exact ⟨e0, e1, A, c, e2, hc, Kd.F_mono (Kd.F_below hF hb) (fun k hk => Nat.lt_of_lt_of_le hk hb.size)⟩
/-- A row of the table. -/
theorem MachC.row {w : World} {m0 m1 m2 : Value} {m : Mc} (h : MachC w m0 m1 m2 m) (s : Int) (h0 : 0 ≤ s) (h1 : s < m.rules.length) :
    ∃ ad A2 c c2, m2 = .slice (some ad) m.rules.length c ∧ m.rules.length ≤ c ∧ w.cell? (ad.add s.toNat) = some (.slice A2 (m.rules.getD s.toNat []).length c2) ∧ (m.rules.getD s.toNat []).length ≤ c2 ∧ Kd.C kRl w A2 (m.rules.getD s.toNat []).length (m.rules.getD s.toNat []) := by
  obtain ⟨e0, e1, A, c, e2, hc, hF⟩ := h
  obtain ⟨ad, cs, e, hl, hK, hcell⟩ := Kd.C_get (Kd.F_now hF) ([] : List Rl) s h0 h1
  obtain ⟨A2, c2, rfl, hle, hC⟩ := hK
  refine ⟨ad, A2, c, c2, by rw [e2, e], hc, ?_, hle, hC⟩
  have := hcell 0 _ rfl
  have hsz : (Kd.slice 84 kRl).sz = 1 := rfl
  rwa [hsz, Nat.mul_one, Nat.add_zero] at this
/-- A rule's cells. -/
theorem rule_cells {w : World} {A : Option Addr} {l : List Rl} (h : Kd.C kRl w A l.length l) (x : Int) (h0 : 0 ≤ x) (h1 : x < l.length) :
    ∃ ad, A = some ad ∧ w.cell? (ad.add (x.toNat * 3)) = some (.int .i64 (l.getD x.toNat default).write) ∧
      w.cell? ⟨(ad.add (x.toNat * 3)).block, (ad.add (x.toNat * 3)).off + 1, none⟩ = some (.int .i64 (l.getD x.toNat default).move) ∧
      w.cell? ⟨(ad.add (x.toNat * 3)).block, (ad.add (x.toNat * 3)).off + 2, none⟩ = some (.int .i64 (l.getD x.toNat default).next) := by
  obtain ⟨ad, cs, e, hl, hK, hcell⟩ := Kd.C_get h (default : Rl) x h0 h1
  have := kRl_open hK
  subst this
  have hsz : kRl.sz = 3 := rfl
  rw [hsz] at hcell
  exact ⟨ad, e, hcell 0 _ rfl, by rw [← add_field _ _ 1 (by omega)]; exact hcell 1 _ rfl, by rw [← add_field _ _ 2 (by omega)]; exact hcell 2 _ rfl⟩

/-! ### A run of the reference in memory -/
/-- The run lies in block b; its rows are the call's own, and in ok. -/
def RunM (w : World) (base b : Nat) (ok : Nat → Prop) (m0 m1 m2 : Value) (r : Rn) : Prop :=
  ∃ RV LV, w.heap[b]? = some (.cells #[m0, m1, m2, .int .i64 r.state, .int .i64 r.pos, RV, LV, .int .i64 r.steps] 42 (0, 0)) ∧ ok b ∧
    w.ownsRow base 3 1 RV r.right.length (nums .i64 r.right) ∧ (∀ k, RV.ownBlock = some k → ok k) ∧
    w.ownsRow base 3 1 LV r.left.length (nums .i64 r.left) ∧ (∀ k, LV.ownBlock = some k → ok k) ∧ NeRow RV LV

theorem RunM.chg {w w1 : World} {base b : Nat} {ok S : Nat → Prop} {m0 m1 m2 : Value} {r : Rn} (h : RunM w base b ok m0 m1 m2 r) (hc : Chg S w w1) (hn : ∀ k, ok k → ¬ S k) : RunM w1 base b ok m0 m1 m2 r := by
  obtain ⟨RV, LV, hb, hok, hR, hRo, hL, hLo, hne⟩ := h
  exact ⟨RV, LV, hc.blk hb (hn b hok), hok, own_move hR (fun k hk => hc.block k (own_lt hR k hk) (hn k (hRo k hk))), hRo,
    own_move hL (fun k hk => hc.block k (own_lt hL k hk) (hn k (hLo k hk))), hLo, hne⟩
theorem RunM.mono {w : World} {base b : Nat} {ok ok' : Nat → Prop} {m0 m1 m2 : Value} {r : Rn} (h : RunM w base b ok m0 m1 m2 r) (hn : ∀ k, ok k → ok' k) : RunM w base b ok' m0 m1 m2 r := by
  obtain ⟨RV, LV, hb, hok, hR, hRo, hL, hLo, hne⟩ := h
  exact ⟨RV, LV, hb, hn b hok, hR, fun k hk => hn k (hRo k hk), hL, fun k hk => hn k (hLo k hk), hne⟩

theorem RunM.bound {w : World} {base b : Nat} {ok : Nat → Prop} {m0 m1 m2 : Value} {r : Rn} (h : RunM w base b ok m0 m1 m2 r) : RunM w base b (fun k => ok k ∧ k < w.heap.size) m0 m1 m2 r := by
  obtain ⟨RV, LV, hb, hok, hR, hRo, hL, hLo, hne⟩ := h
  exact ⟨RV, LV, hb, ⟨hok, blk_lt' hb⟩, hR, fun k hk => ⟨hRo k hk, own_lt hR k hk⟩, hL, fun k hk => ⟨hLo k hk, own_lt hL k hk⟩, hne⟩
theorem RunM.drewN {w : World} {base b : Nat} {ok : Nat → Prop} {m0 m1 m2 : Value} {r : Rn} (h : RunM w base b ok m0 m1 m2 r) (n : Nat) : RunM (w.drewN n) base b ok m0 m1 m2 r := h
theorem RunM.drew {w : World} {base b : Nat} {ok : Nat → Prop} {m0 m1 m2 : Value} {r : Rn} (h : RunM w base b ok m0 m1 m2 r) : RunM w.drew base b ok m0 m1 m2 r := h
theorem RunM.set_pos {w : World} {base b : Nat} {ok : Nat → Prop} {m0 m1 m2 : Value} {r : Rn} (h : RunM w base b ok m0 m1 m2 r) (p : Int) : RunM (w.setCell ⟨b, 4, none⟩ (.int .i64 p)) base b ok m0 m1 m2 { r with pos := p } := by
  obtain ⟨RV, LV, hb, hok, hR, hRo, hL, hLo, hne⟩ := h
  exact ⟨RV, LV, by have := blk_set hb 4 (.int .i64 p); simpa using this, hok, own_set_blk hR hb (by decide) _ _, hRo, own_set_blk hL hb (by decide) _ _, hLo, hne⟩
theorem RunM.set_state {w : World} {base b : Nat} {ok : Nat → Prop} {m0 m1 m2 : Value} {r : Rn} (h : RunM w base b ok m0 m1 m2 r) (p : Int) : RunM (w.setCell ⟨b, 3, none⟩ (.int .i64 p)) base b ok m0 m1 m2 { r with state := p } := by
  obtain ⟨RV, LV, hb, hok, hR, hRo, hL, hLo, hne⟩ := h
  exact ⟨RV, LV, by have := blk_set hb 3 (.int .i64 p); simpa using this, hok, own_set_blk hR hb (by decide) _ _, hRo, own_set_blk hL hb (by decide) _ _, hLo, hne⟩
theorem RunM.set_steps {w : World} {base b : Nat} {ok : Nat → Prop} {m0 m1 m2 : Value} {r : Rn} (h : RunM w base b ok m0 m1 m2 r) (p : Int) : RunM (w.setCell ⟨b, 7, none⟩ (.int .i64 p)) base b ok m0 m1 m2 { r with steps := p } := by
  obtain ⟨RV, LV, hb, hok, hR, hRo, hL, hLo, hne⟩ := h
  exact ⟨RV, LV, by have := blk_set hb 7 (.int .i64 p); simpa using this, hok, own_set_blk hR hb (by decide) _ _, hRo, own_set_blk hL hb (by decide) _ _, hLo, hne⟩
theorem RunM.new {w w1 : World} {base b : Nat} {ok : Nat → Prop} {m0 m1 m2 : Value} {r : Rn} (h : RunM w base b ok m0 m1 m2 r) (hn : New w w1) : RunM w1 base b ok m0 m1 m2 r :=
  h.chg (Chg.of_below hn.below (fun _ => False)) (fun _ _ h => h)
theorem Chg.of_new {w w1 : World} (h : New w w1) (S : Nat → Prop) : Chg S w w1 := Chg.of_below h.below S

theorem own_of_blk {w : World} {base g cap : Nat} {cur : Array Value} {xs : List Int} (h : w.heap[g]? = some (.cells cur 3 (0, 0))) (hb : base ≤ g) (hc : xs.length ≤ cap) (hm : cap ≤ maxLen) (hs : cur.size = cap)
    (ht : ∀ j, j < xs.length → cur[j]? = some (.int .i64 (xs.getD j 0))) : w.ownsRow base 3 1 (.slice (some ⟨g, 0, none⟩) xs.length cap) xs.length (nums .i64 xs) := by
  refine ⟨by rw [nums_length]; omega, .inr ⟨g, cap, cur, rfl, hb, h, hc, hm, by omega, ?_⟩⟩
  refine List.ext_getElem? fun j => ?_
  rw [List.getElem?_take, Nat.mul_one]
  by_cases hj : j < xs.length
  · rw [if_pos hj, Array.getElem?_toList, ht j hj, List.getD_eq_getElem?_getD, List.getElem?_eq_getElem hj]
    simp [nums, hj]
  · rw [if_neg hj, List.getElem?_eq_none (by rw [nums_length]; omega)]
theorem blk_of_own {w : World} {base g cap n : Nat} {xs : List Int} (h : w.ownsRow base 3 1 (.slice (some ⟨g, 0, none⟩) n cap) n (nums .i64 xs)) :
    ∃ cur, w.heap[g]? = some (.cells cur 3 (0, 0)) ∧ base ≤ g ∧ n ≤ cap ∧ cap ≤ maxLen ∧ cur.size = cap ∧ n = xs.length ∧ ∀ j, j < n → cur[j]? = some (.int .i64 (xs.getD j 0)) := by
  obtain ⟨h1, h2⟩ := h
  rw [nums_length] at h1
  rcases h2 with ⟨h2, _⟩ | ⟨g', cap', cur, he, hb, hh, hc, hm, hs, ht⟩
  · simp at h2
  · injection he with e1 e2 e3
    injection e1 with e1
    injection e1 with e1
    subst e1; subst e3
    refine ⟨cur, hh, hb, hc, hm, by omega, by omega, fun j hj => ?_⟩
    have := congrArg (fun l => l[j]?) ht
    simp only [List.getElem?_take, Nat.mul_one, if_pos hj, Array.getElem?_toList] at this
    rw [this, List.getD_eq_getElem?_getD, List.getElem?_eq_getElem (l := xs) (by omega)]
    simp [nums, show j < xs.length by omega]

theorem C_reads {w : World} {A : Option Addr} {n : Nat} {xs : List Int} (h : (Kd.int .i64).C w A n xs) : ReadsInt w .i64 A n xs := by
  obtain ⟨h1, h2, h3⟩ := h
  refine ⟨h1, h2, fun hn => ?_⟩
  obtain ⟨ad, e, hc⟩ := h3 hn
  refine ⟨ad, e, fun j hj => ?_⟩
  obtain ⟨c, hl, hk, hcell⟩ := hc j xs[j] (List.getElem?_eq_getElem (by omega))
  have hk' : c = [.int .i64 xs[j]] := hk
  rw [hk'] at hcell
  have := hcell 0 _ rfl
  have hsz : (Kd.int .i64).sz = 1 := rfl
  rw [hsz, Nat.mul_one, Nat.add_zero] at this
  rw [List.getD_eq_getElem?_getD, List.getElem?_eq_getElem (by omega)]
  exact this
end Go.Proofs.Ytgnhlaonckognaa
