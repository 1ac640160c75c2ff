/- The program's band in memory: 'at' walked. Conditions: positions within K of C, numbers far below 2^63. -/
import Derived.Test.YtgnhlaonckognaaMem
import Derived.Test.YtgnhlaonckognaaTapePlain
import Derived.Test.YtgnhlaonckognaaWWords
import Derived.Laws.CopyOwn
import Derived.OwnWalk
import Derived.Deep.RegionLaw
namespace Go.Proofs.Ytgnhlaonckognaa
open Go.RowKit Go.Proofs.YtgnhlaonckognaaW.PrintWords
set_option linter.unusedVariables false
set_option linter.unusedSimpArgs false

/-- Blocks of cells of other types than these stay as they are. -/
def Kt (ts : List TypeId) (w w' : World) : Prop := ∀ (k : Nat) (cs : Array Value) (t : TypeId) (fr : Nat × Nat), t ∉ ts → w.heap[k]? = some (.cells cs t fr) → w'.heap[k]? = some (.cells cs t fr)
theorem Kt.refl (ts : List TypeId) (w : World) : Kt ts w w := fun _ _ _ _ _ h => h
theorem Kt.trans {ts : List TypeId} {w w1 w2 : World} (h : Kt ts w w1) (k : Kt ts w1 w2) : Kt ts w w2 := fun b cs t fr ht hb => k b cs t fr ht (h b cs t fr ht hb)
theorem Kt.drewN {ts : List TypeId} {w w1 : World} (h : Kt ts w w1) (n : Nat) : Kt ts w (w1.drewN n) := h
theorem Kt.drew {ts : List TypeId} {w w1 : World} (h : Kt ts w w1) : Kt ts w w1.drew := h
theorem Kt.of_new {ts : List TypeId} {w w1 : World} (h : New w w1) : Kt ts w w1 := fun _ _ _ _ _ hb => h.blk hb
theorem Kt.mono {ts ts' : List TypeId} {w w1 : World} (h : Kt ts w w1) (hs : ∀ t, t ∈ ts → t ∈ ts') : Kt ts' w w1 := fun b cs t fr ht hb => h b cs t fr (fun h' => ht (hs t h')) hb
theorem Kt.set {ts : List TypeId} {w w1 : World} (h : Kt ts w w1) {b : Nat} {cs : Array Value} {t : TypeId} {fr : Nat × Nat} (hb : w1.heap[b]? = some (.cells cs t fr)) (ht : t ∈ ts) (i : Nat) (u : Value) : Kt ts w (w1.setCell ⟨b, i, none⟩ u) := by
  intro k cs' t' fr' ht' hk
  have h1 := h k cs' t' fr' ht' hk
  refine (Below.heap_setCell _ _ _ _ (by
    intro e
    have e' : k = b := e
    subst e'
    rw [hb] at h1
    injection h1 with h1
    injection h1 with _ h2 _
    subst h2
    exact ht' ht)).trans h1
theorem Kt.grown {ts : List TypeId} {w w1 w2 : World} (h : Kt ts w w1) {base : Nat} {e : TypeId} {size n : Nat} {v : Value} {xs : List Value} (ho : w1.ownsRow base e size v n xs) (hg : w1.grownBy w2 v.ownBlock) (he : e ∈ ts) : Kt ts w w2 := by
  intro k cs t fr ht hk
  have h1 := h k cs t fr ht hk
  refine (hg.block k (blk_lt' h1) (fun e' => ?_)).trans h1
  exact own_not_blk ho h1 (fun e2 => by subst e2; exact ht he) e'.symm

/-- A band in memory: its block, and its row of the call's own. -/
def BandM (w : World) (base bb : Nat) (b : Band) : Prop :=
  ∃ V, w.heap[bb]? = some (.cells #[V, .int .i64 b.zero] 164 (0, 0)) ∧ base ≤ bb ∧ w.ownsRow base 3 1 V b.cells.length (nums .i64 b.cells)
theorem BandM.new {w w1 : World} {base bb : Nat} {b : Band} (h : BandM w base bb b) (hn : New w w1) : BandM w1 base bb b := by
  obtain ⟨V, hb, hB, hO⟩ := h
  exact ⟨V, hn.blk hb, hB, pw_own_below hO hn.below⟩
theorem BandM.drewN {w : World} {base bb : Nat} {b : Band} (h : BandM w base bb b) (n : Nat) : BandM (w.drewN n) base bb b := h
theorem BandM.drew {w : World} {base bb : Nat} {b : Band} (h : BandM w base bb b) : BandM w.drew base bb b := h
/-- A store into a block of another type. -/
theorem BandM.set {w : World} {base bb : Nat} {b : Band} (h : BandM w base bb b) {k : Nat} {cs : Array Value} {t : TypeId} {fr : Nat × Nat} (hk : w.heap[k]? = some (.cells cs t fr)) (h1 : t ≠ 164) (h2 : 3 ≠ t) (i : Nat) (u : Value) : BandM (w.setCell ⟨k, i, none⟩ u) base bb b := by
  obtain ⟨V, hb, hB, hO⟩ := h
  refine ⟨V, (Below.heap_setCell _ _ _ _ (by
    intro e
    have e' : bb = k := e
    subst e'
    rw [hb] at hk
    injection hk with hk
    injection hk with _ hk _
    exact h1 hk.symm)).trans hb, hB, own_set_blk hO hk h2 i u⟩
theorem BandM.bound {w : World} {base bb : Nat} {b : Band} (h : BandM w base bb b) : bb < w.heap.size := by obtain ⟨V, hb, _⟩ := h; exact blk_lt' hb

def AtIdle (w : World) (p : Int) (e : Ending) (w' : World) : Prop := e = .returned (.int .i64 p) ∧ ∃ n, w' = w.drewN n
set_option maxHeartbeats 1000000 in
/-- 'at' where the band has the position: nothing turns. -/
theorem at_idle (w : World) (base bb : Nat) (b : Band) (pos : Int) (h : BandM w base bb b) (hh : b.has pos) (hp0 : -4398046511104 ≤ pos) (hp1 : pos ≤ 4398046511104) (hl : b.cells.length ≤ 1000000000) :
    Calls Try.prog 116 #[.pointer (some ⟨bb, 0, none⟩), .int .i64 pos] w (AtIdle w (pos + b.zero)) := by
  obtain ⟨V, hb, hB, hO⟩ := h
  obtain ⟨A, c, hV⟩ := own_slice hO
  subst hV
  have c0 := blk_cell hb 0 _ rfl
  have c1 := blk_cell hb 1 _ rfl
  obtain ⟨hh0, hh1⟩ := hh
  obtain ⟨z, hz⟩ : ∃ z, z = b.zero := ⟨_, rfl⟩
  obtain ⟨n, hn⟩ : ∃ n, n = b.cells.length := ⟨_, rfl⟩
  rw [← hz] at c1 hh0 hh1 ⊢
  rw [← hn] at c0 hh1 hl
  have hn0 : 0 < n := by omega
  have hd0 : ((n : Int) == 0) = false := by simp; omega
  clear hb hO hz hn
  go_enter Try.func116, Try.ntmps116
  go_wp2
  go_loopg [] 0 (fun (gk : Nat) (wr : World) => wr = w)
  case atStart => rfl
  case round =>
    subst hrel
    go_wp2
    go_loopg [] 0 (fun (gk : Nat) (wr2 : World) => wr2 = wr)
    case atStart => rfl
    case round =>
      subst hrel
      go_wp2
      go_quiet (fail)
      go_wp2
      go_ret
      exact ⟨rfl, _, rfl⟩

theorem made_zeros (n : Nat) : (madeCells (Value.int .i64 0).cells (n * 1)).toList = nums .i64 (List.replicate n 0) := by
  refine List.ext_getElem (by simp [madeCells, nums]) fun j h1 h2 => ?_
  simp [madeCells, nums, Value.cells, Nat.mod_one]

theorem size_int : (Try.prog.info? 3).map (·.size) = some 1 := by kernel_rfl
theorem one_nums (xs : List Int) : ∀ v ∈ nums .i64 xs, v.oneCell' = true := by
  intro v hv
  obtain ⟨x, _, rfl⟩ := List.mem_map.1 hv
  rfl
/-- A row that fills its block: the block's cells. -/
theorem own_full {w : World} {base g n : Nat} {xs : List Int} (h : w.ownsRow base 3 1 (.slice (some ⟨g, 0, none⟩) n n) n (nums .i64 xs)) (hn : n = xs.length) : w.heap[g]? = some (.cells (nums .i64 xs).toArray 3 (0, 0)) := by
  obtain ⟨cur, hh, _, _, _, hs, _, ht⟩ := blk_of_own h
  rw [hh]
  congr 2
  refine Array.ext_getElem? fun j => ?_
  rcases Nat.lt_or_ge j n with hj | hj
  · rw [ht j hj, List.getD_eq_getElem?_getD, List.getElem?_eq_getElem (l := xs) (by omega)]
    simp [nums, show j < xs.length by omega]
  · rw [Array.getElem?_eq_none (by omega), Array.getElem?_eq_none (by simp [nums]; omega)]
theorem own_src {w : World} {base n c : Nat} {A : Option Addr} {xs : List Int} (h : w.ownsRow base 3 1 (.slice A n c) xs.length (nums .i64 xs)) (h0 : 0 < xs.length) :
    ∃ ad, A = some ad ∧ ∀ (j : Nat) (v : Value), (nums .i64 xs)[j]? = some v → w.cell? (ad.add j) = some v := by
  obtain ⟨g, cap, he, _, _⟩ := h.form h0
  injection he with e1 e2 e3
  subst e1
  exact ⟨_, rfl, fun j v hv => h.cells (g := g) rfl j v hv⟩

theorem bbound {w : World} {b : Nat} {o : Obj} (h : w.heap[b]? = some o) : b < w.heap.size := (Array.getElem?_eq_some_iff.1 h).1

theorem splice_left (xs : List Int) : splice (nums .i64 (List.replicate (2 * xs.length) 0)) xs.length (nums .i64 xs) = nums .i64 (List.replicate xs.length 0 ++ xs) := by
  unfold splice
  rw [nums_length, nums_append]
  have e1 : (nums .i64 (List.replicate (2 * xs.length) 0)).take xs.length = nums .i64 (List.replicate xs.length 0) := by
    unfold nums
    rw [← List.map_take, List.take_replicate]
    congr 2; omega
  have e2 : (nums .i64 (List.replicate (2 * xs.length) 0)).drop (xs.length + xs.length) = [] := List.drop_eq_nil_of_le (by rw [nums_length, List.length_replicate]; omega)
  rw [e1, e2, List.append_nil]
theorem left_mem {w2 : World} {base bb g : Nat} {b1 : Band} {V : Value} {n1 : Nat} {z : Int} (hb : w2.heap[bb]? = some (.cells #[V, .int .i64 b1.zero] 164 (0, 0)))
    (hg : w2.heap[g]? = some (.cells (splice (nums .i64 (List.replicate (2 * n1) 0)) n1 (nums .i64 b1.cells)).toArray 3 (0, 0))) (hB : base ≤ bb) (hG : base ≤ g) (hn : n1 = b1.cells.length) (hz : z = b1.zero) (hl : n1 ≤ 100000000) :
    BandM ((w2.setCell ⟨bb, 0, none⟩ (.slice (some ⟨g, 0, none⟩) (2 * n1) (2 * n1))).setCell ⟨bb, 1, none⟩ (.int .i64 (z + n1))) base bb (leftB b1) := by
  subst hn; subst hz
  rw [splice_left] at hg
  have hs := blk_set (blk_set hb 0 (.slice (some ⟨g, 0, none⟩) (2 * b1.cells.length) (2 * b1.cells.length))) 1 (.int .i64 (b1.zero + b1.cells.length))
  refine ⟨.slice (some ⟨g, 0, none⟩) (2 * b1.cells.length) (2 * b1.cells.length), by rw [show (leftB b1).zero = b1.zero + b1.cells.length from rfl]; simpa using hs, hB, ?_⟩
  have e : (leftB b1).cells.length = 2 * b1.cells.length := by unfold leftB; simp only [List.length_append, List.length_replicate]; omega
  have h1 : w2.ownsRow base 3 1 (.slice (some ⟨g, 0, none⟩) (leftB b1).cells.length (2 * b1.cells.length)) (leftB b1).cells.length (nums .i64 (leftB b1).cells) :=
    own_of_blk hg hG (by omega) (by unfold maxLen; omega) (by simp [nums]; omega) (fun j hj => by
      rw [List.getElem?_toArray]
      show (nums .i64 (leftB b1).cells)[j]? = _
      rw [List.getD_eq_getElem?_getD, List.getElem?_eq_getElem hj]
      simp [nums, hj])
  have h2 := own_set_blk (own_set_blk h1 hb (by decide) 0 (.slice (some ⟨g, 0, none⟩) (2 * b1.cells.length) (2 * b1.cells.length))) (blk_set hb 0 _) (by decide) 1 (.int .i64 (b1.zero + b1.cells.length))
  rw [e] at h2 ⊢
  exact h2
theorem zeros_nums (n : Nat) : (Builtin.zeroCells (Value.int .i64 0).cells n).toList = nums .i64 (List.replicate n 0) := by
  have : Builtin.zeroCells (Value.int .i64 0).cells n = madeCells (Value.int .i64 0).cells (n * 1) := rfl
  rw [this, made_zeros]
/-- 'append(v, make([]int, n)...)', a slice of the call's own. -/
theorem app_zeros {ops : Array Oper} {rest : List Oper} {o : Oper} {a : Act} {Q : Exit → Act → World → Prop} {W : World} (base : Nat) (hgd : o.guard = none) (s x : Operand)
    (ho : o.op = .call { callee := .builtin .append, args := #[s, x], argTypes := #[34, 3] }) (v : Value) (xs : List Int) (n : Nat) (hs : a.eval s = v) (hx : a.eval x = .int .i64 n)
    (HO : W.ownsRow base 3 1 v xs.length (nums .i64 xs)) (hbase : base ≤ W.heap.size) (hl : xs.length + n ≤ 8796093022208)
    (h : ∀ v1 w1, w1.ownsRow base 3 1 v1 (xs ++ List.replicate n 0).length (nums .i64 (xs ++ List.replicate n 0)) → W.grownBy w1 v.ownBlock → wpList Try.prog ops Q rest (a.put o.dst v1) w1) :
    wpList Try.prog ops Q (o :: rest) a W := by
  obtain ⟨i0, hi0, hi1, hi2, hi3⟩ := info_parts info_int
  obtain ⟨v1, w1, hr1, h1, hg, hat⟩ := run_append_zeros (P := Try.prog) W base 34 3 o.type 3 i0 (.int .i64 0) 1 8 Try.underlying34 Try.underlying3 hi0 hi1 hi2 hi3 rfl (by decide) (by decide) v xs.length (nums .i64 xs) HO .i64 n
    (by rw [zeros_nums]; exact one_nums _) (by omega) hbase
  refine wpList_plain hgd fun K hK => ?_
  unfold Oper.wp execOp
  simp only [ho, resolve, invoke, builtin, Sem.run_bind, Sem.run_pure, Result.andThen_ok, List.map_toArray, List.map_cons, List.map_nil, hs, hx, hr1]
  refine hK _ _ (h v1 w1 ?_ hg)
  rw [zeros_nums, ← nums_append] at h1
  simpa using h1

theorem app_zeros_step {ops : Array Oper} {o : Oper} {a : Act} {Kc : Act → World → Prop} {Q : Exit → Act → World → Prop} {W : World} (base : Nat) (hw : Region.wanted o (yielded ops a.tmps) = true) (s x : Operand)
    (ho : o.op = .call { callee := .builtin .append, args := #[s, x], argTypes := #[34, 3] }) (v : Value) (xs : List Int) (n : Nat) (hs : a.eval s = v) (hx : a.eval x = .int .i64 n)
    (HO : W.ownsRow base 3 1 v xs.length (nums .i64 xs)) (hbase : base ≤ W.heap.size) (hl : xs.length + n ≤ 8796093022208)
    (h : ∀ v1 w1, w1.ownsRow base 3 1 v1 (xs ++ List.replicate n 0).length (nums .i64 (xs ++ List.replicate n 0)) → W.grownBy w1 v.ownBlock → Kc (a.put o.dst v1) w1) :
    if Region.wanted o (yielded ops a.tmps) = true then Oper.wp Try.prog o a W Kc Q else Kc (a.put o.dst undef) W := by
  obtain ⟨i0, hi0, hi1, hi2, hi3⟩ := info_parts info_int
  obtain ⟨v1, w1, hr1, h1, hg, hat⟩ := run_append_zeros (P := Try.prog) W base 34 3 o.type 3 i0 (.int .i64 0) 1 8 Try.underlying34 Try.underlying3 hi0 hi1 hi2 hi3 rfl (by decide) (by decide) v xs.length (nums .i64 xs) HO .i64 n
    (by rw [zeros_nums]; exact one_nums _) (by omega) hbase
  rw [if_pos hw]
  unfold Oper.wp execOp
  simp only [ho, resolve, invoke, builtin, Sem.run_bind, Sem.run_pure, Result.andThen_ok, List.map_toArray, List.map_cons, List.map_nil, hs, hx, hr1]
  refine h v1 w1 ?_ hg
  rw [zeros_nums, ← nums_append] at h1
  simpa using h1

def AtPost (w : World) (base bb : Nat) (b : Band) (pos K C : Int) (e : Ending) (w' : World) : Prop :=
  ∃ b', e = .returned (.int .i64 (pos + b'.zero)) ∧ BandAt K C pos b b' ∧ BandM w' base bb b' ∧ Below base w w' ∧ Kt [3, 164] w w'
def LeftRel (w : World) (base bb : Nat) (b : Band) (pos K C : Int) (gk : Nat) (wr : World) : Prop :=
  ∃ b', BandTo K C b b' ∧ BandM wr base bb b' ∧ Below base w wr ∧ Kt [3, 164] w wr ∧ gk = (-(pos + b'.zero)).toNat
def RightRel (w : World) (base bb : Nat) (b : Band) (pos K C : Int) (gk : Nat) (wr : World) : Prop :=
  ∃ b', BandTo K C b b' ∧ BandM wr base bb b' ∧ Below base w wr ∧ Kt [3, 164] w wr ∧ 0 ≤ pos + b'.zero ∧ gk = (pos + b'.zero + 1 - b'.cells.length).toNat

set_option maxHeartbeats 4000000 in
set_option maxRecDepth 100000 in
theorem at_full (w : World) (base bb : Nat) (b : Band) (pos K C : Int) (h : BandM w base bb b) (hbase : base ≤ w.heap.size) (h0 : 0 < b.cells.length) (hsz : b.Sz K C) (hp0 : C - K < pos) (hp1 : pos < C + K) (hC0 : -4398046511104 ≤ C) (hC1 : C ≤ 4398046511104) (hK0 : 0 ≤ K) (hK : K ≤ 10000000) :
    Calls Try.prog 116 #[.pointer (some ⟨bb, 0, none⟩), .int .i64 pos] w (AtPost w base bb b pos K C) := by
  have hrel0 : LeftRel w base bb b pos K C (-(pos + b.zero)).toNat w := ⟨b, BandTo.refl hsz h0, h, Below.refl _ _, Kt.refl _ _, rfl⟩
  have HREL := Lib.hid hrel0
  obtain ⟨V, hb, hB, hO⟩ := h
  obtain ⟨A, c, hV⟩ := own_slice hO
  subst hV
  have c0 := blk_cell hb 0 _ rfl
  obtain ⟨gk0, hgk0⟩ : ∃ g, g = (-(pos + b.zero)).toNat := ⟨_, rfl⟩
  rw [← hgk0] at HREL
  obtain ⟨n, hn⟩ : ∃ n, n = b.cells.length := ⟨_, rfl⟩
  rw [← hn] at c0 h0
  have hd0 : ((n : Int) == 0) = false := by simp; omega
  clear hb hO hn hrel0 hgk0 hsz
  go_enter Try.func116, Try.ntmps116
  go_wp2
  clear c0 hd0 h0
  go_loopg [] gk0 (fun (gk : Nat) (wr : World) => LeftRel w base bb b pos K C gk wr)
  case atStart => exact HREL.out
  case round =>
    obtain ⟨b1, hto, hM, hbel, hkt, hgk⟩ := hrel
    have HTO := Lib.hid hto; have HM := Lib.hid hM; have HBEL := Lib.hid hbel; have HKT := Lib.hid hkt; have HGK := Lib.hid hgk
    have hbw : base ≤ wr.heap.size := Nat.le_trans hbase hbel.size
    obtain ⟨V1, hb1, hB1, hO1⟩ := hM
    obtain ⟨A1, c1, hV1⟩ := own_slice hO1
    subst hV1
    have k0 := blk_cell hb1 0 _ rfl
    have k1 := blk_cell hb1 1 _ rfl
    have f0 := blk_free hb1 0
    have f1 := blk_free hb1 1
    obtain ⟨z, hz⟩ : ∃ z, z = b1.zero := ⟨_, rfl⟩
    obtain ⟨n1, hn1⟩ : ∃ n1, n1 = b1.cells.length := ⟨_, rfl⟩
    have hbd := hto.sz.bd
    have hpos := hto.pos
    have hz0 : -200000000000000 ≤ z ∧ z ≤ 200000000000000 := by obtain ⟨s1, s2, s3, s4⟩ := hto.sz; omega
    obtain ⟨hz1, hz2⟩ := hz0
    have hnl : n1 ≤ 100000000 := by omega
    have hnp : 0 < n1 := by omega
    rw [← hz] at k1
    rw [← hn1] at k0
    have HZ := Lib.hid hz; have HN := Lib.hid hn1; have HB1 := Lib.hid hb1; have HO1 := Lib.hid hO1
    clear hto hbel hkt hgk hz hn1 hb1 hO1 hbd hpos
    by_cases hneg : pos + z < 0
    · obtain ⟨i0, hi0, hi1, hi2, hi3⟩ := info_parts info_int
      have hb2 : i0.bytes * (2 * n1) ≤ 281474976710656 := by rw [hi3]; omega
      have hb3 : 2 * n1 ≤ maxLen := by unfold maxLen; omega
      clear hi3
      go_wp2_with (at_make; refine wpList_make_full wr rfl _ _ 34 rfl wr.heap.size 3 i0 (.int .i64 0) 1 Try.underlying34 hi0 hi1 hi2 .i64 .i64 (2 * (n1 : Int)) (2 * (n1 : Int)) (2 * n1) rfl rfl (by omega) (by omega) hb2 hb3 (Nat.le_refl _) ?_; intro w1 hown1 hg1; rw [made_zeros] at hown1)
      have hnw : New wr w1 := ⟨hg1.os, hg1.tape, hg1.output, hg1.size, fun k hk => hg1.block k hk (by simp)⟩
      have hb1 := hnw.blk HB1.out
      have k0' := blk_cell hb1 0 _ rfl
      rw [← HN.out] at k0'
      have HG := Lib.hid hown1; have HNW := Lib.hid hnw; have HB2 := Lib.hid hb1
      clear hown1 hg1 hnw hb1 k0 k1 f0 f1 hb2 hb3 hi0 hi1 hi2
      have q1 : n1 ≤ 2 * n1 := by omega
      have q2 : ¬ (2 * n1 = n1) := by omega
      have q3 : (n1 : Int) ≤ 2 * (n1 : Int) := by omega
      have q4 : n1 < 2 * n1 := by omega
      go_still_tail 7, (by kernel_rfl)
      have hfull := own_full HG.out (by simp)
      have hsrc := own_src HO1.out
      have hsn := HN.out
      refine wpList_copy_splice rfl (.tmp 39) (.tmp 43) 34 34 rfl 3 Try.underlying34 size_int (some ⟨wr.heap.size, n1, none⟩) A1 (2 * n1 - n1) (2 * n1 - n1) n1 c1 ?_ rfl wr.heap.size n1 (nums .i64 (List.replicate (2 * n1) 0)) 3 hfull (nums .i64 b1.cells) ?_ ?_ ?_ (one_nums _) wr.heap.size w1.drew (Below.refl _ _) (Nat.le_refl _) ?_
      rotate_right
      intro w2 hw2 hb2
      have HW2 := hw2; have HBB := Lib.hid hb2
      have hbb := bbound HB1.out
      have hbb2 := (hb2.block bb hbb).trans (show w1.drew.heap[bb]? = _ from HB2.out)
      have k0 := blk_cell hbb2 0 _ rfl
      have k1 := blk_cell hbb2 1 _ rfl
      have f0 := blk_free hbb2 0
      have f1 := blk_free hbb2 1
      rw [← HZ.out] at k1
      rw [← HN.out] at k0
      have HBB2 := Lib.hid hbb2
      clear hw2 hb2 hbb2 hfull hsrc hsn
      go_wp2
      go_roundg ((-(pos + (z + (n1 : Int)))).toNat)
      case measure => have := HGK.out; rw [← HZ.out] at this; omega
      case rel =>
        have hnw2 : New wr w2 := ⟨(below_drew HNW.out.below).trans HBB.out⟩
        refine ⟨leftB b1, HTO.out.left hp0 (by rw [← HZ.out]; exact hneg), ?_, ?_, ?_, by unfold leftB; rw [← HZ.out, ← HN.out]⟩
        · exact left_mem HBB2.out HW2.out hB1 hbw HN.out HZ.out hnl
        · exact ((HBEL.out.trans (hnw2.below.mono hbw)).setCell hB1 _).setCell hB1 _
        · have h2 : Kt [3, 164] w w2 := HKT.out.trans (Kt.of_new hnw2)
          have h3 := h2.set HBB2.out (by simp) 0 (.slice (some ⟨wr.heap.size, 0, none⟩) (2 * n1) (2 * n1))
          exact h3.set (blk_set HBB2.out 0 _) (by simp) 1 _
      · rfl
      · rw [nums_length, ← HN.out]; exact (Nat.min_eq_left (by omega)).symm
      · intro _
        obtain ⟨ad, e1, e2⟩ := own_src HO1.out (by rw [← HN.out]; exact hnp)
        exact ⟨ad, e1, fun j v hv => HNW.out.cell (e2 j v hv)⟩
      · rw [nums_length, nums_length, List.length_replicate, ← HN.out]; omega
    · have hrel1 : RightRel w base bb b pos K C (pos + z + 1 - n1).toNat wr := ⟨b1, HTO.out, ⟨_, HB1.out, hB1, HO1.out⟩, HBEL.out, HKT.out, by rw [← HZ.out]; omega, by rw [← HZ.out, ← HN.out]⟩
      have HREL1 := Lib.hid hrel1
      clear hrel1
      go_wp2
      obtain ⟨w0, hw0⟩ : ∃ w0, w0 = wr := ⟨_, rfl⟩
      clear k0 f0 f1 HB1 HO1 HTO HM HBEL HKT HGK HZ HN
      go_loopg [] ((pos + z + 1 - n1).toNat) (fun (gk : Nat) (wr2 : World) => RightRel w base bb b pos K C gk wr2)
      case atStart => exact HREL1.out
      case round =>
        obtain ⟨b2, hto, hM, hbel, hkt, hnn, hgk⟩ := hrel
        have HTO := Lib.hid hto; have HBEL := Lib.hid hbel; have HKT := Lib.hid hkt; have HGK := Lib.hid hgk; have HM := Lib.hid hM
        have hbw2 : base ≤ wr.heap.size := Nat.le_trans hbase hbel.size
        obtain ⟨V2, hb2, hB2, hO2⟩ := hM
        obtain ⟨A2, c2, hV2⟩ := own_slice hO2
        subst hV2
        have k0 := blk_cell hb2 0 _ rfl
        have k1 := blk_cell hb2 1 _ rfl
        obtain ⟨z2, hz⟩ : ∃ z, z = b2.zero := ⟨_, rfl⟩
        obtain ⟨n2, hn2⟩ : ∃ n2, n2 = b2.cells.length := ⟨_, rfl⟩
        have hbd := hto.sz.bd
        have hpos := hto.pos
        have hz0 : -200000000000000 ≤ z2 ∧ z2 ≤ 200000000000000 := by obtain ⟨s1, s2, s3, s4⟩ := hto.sz; omega
        obtain ⟨hz3, hz4⟩ := hz0
        have hnl2 : n2 ≤ 100000000 := by omega
        have hnp2 : 0 < n2 := by omega
        rw [← hz] at k1 hnn
        rw [← hn2] at k0
        have HZ := Lib.hid hz; have HN := Lib.hid hn2; have HB2 := Lib.hid hb2; have HO2 := Lib.hid hO2
        clear hto hbel hkt hgk hz hn2 hb2 hO2 hbd hpos
        by_cases hge : (n2 : Int) ≤ pos + z2
        · have hd : decide ((n2 : Int) ≤ pos + z2) = true := by simpa using hge
          go_wp2
          go_quiet (fail)
          go_wp2
          obtain ⟨wq, hq⟩ : ∃ wq, wq = wr.drewN nq := ⟨_, rfl⟩
          have k0' : wq.cell? ⟨bb, 0, none⟩ = some (.slice A2 n2 c2) := by rw [hq]; exact k0
          have hNq : New wr wq := by rw [hq]; exact (New.refl _).drewN _
          rw [← hq]
          have HNQ := Lib.hid hNq
          clear k0 k1 hq hNq
          have hOq := own_move (w1 := wq) HO2.out (fun k hk => (HNQ.out.below.block k (own_lt HO2.out k hk)))
          have hBq := HNQ.out.blk HB2.out
          have hbwq : base ≤ wq.heap.size := Nat.le_trans hbw2 HNQ.out.size
          have HOQ := Lib.hid hOq; have HBQ := Lib.hid hBq
          rw [← HN.out] at HOQ
          clear hOq hBq
          go_region_law (refine app_zeros_step base (by rfl) (.tmp 74) (.tmp 79) rfl (.slice A2 n2 c2) b2.cells n2 rfl rfl (by rw [← HN.out]; exact HOQ.out) hbwq (by rw [← HN.out]; omega) ?_; intro v1 w1 hown hg; obtain ⟨A3, c3, hv3⟩ := own_slice hown; generalize hL3 : (b2.cells ++ List.replicate n2 0).length = L3 at hv3 hown; subst hv3; have hbb1 := (hg.block bb (bbound HBQ.out) (fun e => own_not_blk HOQ.out HBQ.out (by decide) e.symm)).trans HBQ.out; have f0 := blk_free hbb1 0; have k0b := blk_cell hbb1 0 _ rfl; have HOW := Lib.hid hown; have HGR := Lib.hid hg; have HBW := Lib.hid hbb1; have HL3 := Lib.hid hL3; clear hown hg hbb1 hL3)
          all_goals
            go_wp2
            go_roundg ((pos + z2 + 1 - (n2 + n2 : Nat)).toNat)
            case measure => have := HGK.out; rw [← HZ.out, ← HN.out] at this; omega
            case rel =>
              have hnw1 : Below base w w1 := (((HBEL.out.trans (HNQ.out.below.mono hbw2)).drew).grown HGR.out hbwq (fun k hk => own_base HOQ.out k hk))
              have hkt1 : Kt [3, 164] w w1 := ((HKT.out.trans (Kt.of_new HNQ.out)).drew).grown HOQ.out HGR.out (by simp)
              refine ⟨rightB b2, HTO.out.right hp1 (by rw [← HZ.out, ← HN.out]; exact hge), ?_, ?_, ?_, by show 0 ≤ pos + b2.zero; rw [← HZ.out]; exact hnn, ?_⟩
              · refine ⟨.slice A3 L3 c3, by rw [show (rightB b2).zero = b2.zero from rfl]; have := blk_set HBW.out 0 (.slice A3 L3 c3); simpa using this, hB2, ?_⟩
                have := HOW.out
                rw [← HL3.out, HN.out] at this ⊢
                exact own_set_blk this HBW.out (by decide) 0 _
              · exact hnw1.setCell hB2 _
              · exact hkt1.set HBW.out (by simp) 0 _
              · show _ = (pos + b2.zero + 1 - ((b2.cells ++ List.replicate b2.cells.length 0).length : Nat)).toNat
                rw [← HZ.out, List.length_append, List.length_replicate, ← HN.out]
        · have hd : decide ((n2 : Int) ≤ pos + z2) = false := by simpa using hge
          go_wp2
          go_quiet (fail)
          go_wp2
          go_ret
          refine ⟨b2, by rw [← HZ.out]; rfl, ⟨HTO.out.sz, HTO.out.get, HTO.out.has, ⟨by rw [← HZ.out]; exact hnn, by rw [← HZ.out, ← HN.out]; omega⟩⟩, ?_, ?_, ?_⟩
          · exact HM.out.drewN _
          · exact pw_below_drewN HBEL.out _
          · exact HKT.out.drewN _

set_option maxHeartbeats 2000000 in
set_option maxRecDepth 100000 in
theorem at_empty (w : World) (base bb : Nat) (b : Band) (pos K C : Int) (h : BandM w base bb b) (hbase : base ≤ w.heap.size) (h0 : b.cells = []) (hp0 : C - K + 8 ≤ pos) (hp1 : pos + 8 ≤ C + K) (hC0 : -4398046511104 ≤ C) (hC1 : C ≤ 4398046511104) (hK0 : 0 ≤ K) (hK : K ≤ 10000000) :
    Calls Try.prog 116 #[.pointer (some ⟨bb, 0, none⟩), .int .i64 pos] w (AtPost w base bb b pos K C) := by
  have hto := BandTo.fresh (K := K) (C := C) (pos := pos) h0 (by omega) (by omega)
  obtain ⟨V, hb, hB, hO⟩ := h
  have hv : V = .slice none 0 0 ∨ ∃ A c, V = .slice A 0 c := by obtain ⟨A, c, e⟩ := own_slice hO; rw [h0] at e; exact .inr ⟨A, c, e⟩
  have hv : ∃ A c, V = .slice A 0 c := hv.elim (fun e => ⟨_, _, e⟩) id
  obtain ⟨A, c, hV⟩ := hv
  subst hV
  have c0 := blk_cell hb 0 _ rfl
  have f0 := blk_free hb 0
  have f1 := blk_free hb 1
  have c1 := blk_cell hb 1 _ rfl
  have HTO := Lib.hid hto; have HB := Lib.hid hb
  have hbl := bbound hb
  clear hto hb hO h0
  go_enter Try.func116, Try.ntmps116
  obtain ⟨i0, hi0, hi1, hi2, hi3⟩ := info_parts info_int
  have hb2 : i0.bytes * 16 ≤ 281474976710656 := by rw [hi3]; decide
  have hb3 : 16 ≤ maxLen := by unfold maxLen; decide
  clear hi3
  go_wp2_with (at_make; refine wpList_make_full w rfl _ _ 34 rfl w.heap.size 3 i0 (.int .i64 0) 1 Try.underlying34 hi0 hi1 hi2 .i64 .i64 16 16 16 rfl rfl rfl rfl hb2 hb3 (Nat.le_refl _) ?_; intro w1 hown1 hg1; rw [made_zeros] at hown1; have hnw : New w w1 := ⟨hg1.os, hg1.tape, hg1.output, hg1.size, fun k hk => hg1.block k hk (by simp)⟩; have hb1 := hnw.blk HB.out; have k0 := blk_cell hb1 0 _ rfl; have k1 := blk_cell hb1 1 _ rfl; have g0 := blk_free hb1 0; have g1 := blk_free hb1 1; have HO1 := Lib.hid hown1; have HNW := Lib.hid hnw; have HB1 := Lib.hid hb1; clear hown1 hg1 hnw hb1 c0 c1 f0 f1)
  have hset := blk_set (blk_set HB1.out 0 (.slice (some ⟨w.heap.size, 0, none⟩) 16 16)) 1 (.int .i64 (8 - pos))
  have hM : BandM ((w1.setCell ⟨bb, 0, none⟩ (.slice (some ⟨w.heap.size, 0, none⟩) 16 16)).setCell ⟨bb, 1, none⟩ (.int .i64 (8 - pos))) base bb (freshB pos) := by
    refine ⟨.slice (some ⟨w.heap.size, 0, none⟩) 16 16, by rw [show (freshB pos).zero = 8 - pos from rfl]; simpa using hset, hB, ?_⟩
    have h2 := own_set_blk (own_set_blk HO1.out HB1.out (by decide) 0 (.slice (some ⟨w.heap.size, 0, none⟩) 16 16)) (blk_set HB1.out 0 _) (by decide) 1 (.int .i64 (8 - pos))
    exact own_weaken h2 hbase
  have hBel : Below base w ((w1.setCell ⟨bb, 0, none⟩ (.slice (some ⟨w.heap.size, 0, none⟩) 16 16)).setCell ⟨bb, 1, none⟩ (.int .i64 (8 - pos))) :=
    (((HNW.out.below.mono hbase)).setCell hB _).setCell hB _
  have hKt : Kt [3, 164] w ((w1.setCell ⟨bb, 0, none⟩ (.slice (some ⟨w.heap.size, 0, none⟩) 16 16)).setCell ⟨bb, 1, none⟩ (.int .i64 (8 - pos))) :=
    ((Kt.of_new HNW.out).set HB1.out (by simp) 0 _).set (blk_set HB1.out 0 _) (by simp) 1 _
  obtain ⟨W2, hW2⟩ : ∃ W2, W2 = (w1.setCell ⟨bb, 0, none⟩ (.slice (some ⟨w.heap.size, 0, none⟩) 16 16)).setCell ⟨bb, 1, none⟩ (.int .i64 (8 - pos)) := ⟨_, rfl⟩
  rw [← hW2] at hM hBel hKt hset ⊢
  have q0 : W2.cell? ⟨bb, 0, none⟩ = some (.slice (some ⟨w.heap.size, 0, none⟩) 16 16) := blk_cell hset 0 _ rfl
  have q1 : W2.cell? ⟨bb, 1, none⟩ = some (.int .i64 (8 - pos)) := blk_cell hset 1 _ rfl
  have HM := Lib.hid hM; have HBel := Lib.hid hBel; have HKt := Lib.hid hKt
  clear hM hBel hKt hset hW2 k0 k1 g0 g1 HB1 HO1 HNW HB hv hi0 hi1 hi2 hb2 hb3
  go_loopg [] 0 (fun (gk : Nat) (wr : World) => wr = W2)
  case atStart => rfl
  case round =>
    subst hrel
    go_wp2
    go_loopg [] 0 (fun (gk : Nat) (wr2 : World) => wr2 = wr)
    case atStart => rfl
    case round =>
      subst hrel
      go_wp2
      go_quiet (fail)
      go_wp2
      go_ret
      exact ⟨freshB pos, rfl, ⟨HTO.out.sz, HTO.out.get, HTO.out.has, freshB_has pos⟩, HM.out.drewN _, pw_below_drewN HBel.out _, HKt.out.drewN _⟩
theorem at_any (w : World) (base bb : Nat) (b : Band) (pos K C : Int) (h : BandM w base bb b) (hbase : base ≤ w.heap.size) (hsz : b.cells ≠ [] → b.Sz K C) (hp0 : C - K + 8 ≤ pos) (hp1 : pos + 8 ≤ C + K) (hC0 : -4398046511104 ≤ C) (hC1 : C ≤ 4398046511104) (hK0 : 0 ≤ K) (hK : K ≤ 10000000) :
    Calls Try.prog 116 #[.pointer (some ⟨bb, 0, none⟩), .int .i64 pos] w (AtPost w base bb b pos K C) := by
  by_cases h0 : b.cells = []
  · exact at_empty w base bb b pos K C h hbase h0 hp0 hp1 hC0 hC1 hK0 hK
  · exact at_full w base bb b pos K C h hbase (List.length_pos_iff.2 h0) (hsz h0) (by omega) (by omega) hC0 hC1 hK0 hK
end Go.Proofs.Ytgnhlaonckognaa
