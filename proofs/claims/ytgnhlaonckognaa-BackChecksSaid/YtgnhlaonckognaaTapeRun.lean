/- tape.spread, trimmed, config walked. Conditions: cells fewer than 10^9, numbers far below 2^63. -/
import Derived.Test.YtgnhlaonckognaaBand
import Derived.BigRegion
import Derived.Deep.DeepCutAuto
import Derived.Deep.CutBlock
namespace Go.Proofs.Ytgnhlaonckognaa
open Go.RowKit Go.Proofs.YtgnhlaonckognaaW.PrintWords
set_option linter.unusedVariables false
set_option linter.unusedSimpArgs false

set_option maxRecDepth 100000 in
theorem run_make_ints (n : Nat) (hn : n ≤ 1000000000) (W : World) : (Instr.makeSlice 34 (.int .i64 (n : Int)) (.int .i64 (n : Int))).run Try.prog W = .ok (.slice (some ⟨W.heap.size, 0, none⟩) n n) (W.alloc (.cells (nums .i64 (List.replicate n 0)).toArray 3)) := by
  obtain ⟨i0, hi0, hi1, hi2, hi3⟩ := info_parts info_int
  have hr := run_make (P := Try.prog) W 34 3 i0 (.int .i64 0) Try.underlying34 hi0 hi1 .i64 .i64 n n (by omega) (Int.le_refl _) (by rw [hi3]; omega) (by omega)
  simp only [Int.toNat_natCast] at hr
  rw [hr, hi2]
  congr 2
  refine congrArg (fun a => Obj.cells a 3) ?_
  have := made_zeros n
  rw [← this]

/-- A copy into a row; nothing else turns. -/
theorem copy_only {P : Program} {w : World} {ops : Array Oper} {rest : List Oper} {o : Oper} {a : Act} {Q : Exit → Act → World → Prop} (hgd : o.guard = none) (d s : Operand) (dT sT : TypeId)
    (ho : o.op = .call { callee := .builtin .copy, args := #[d, s], argTypes := #[dT, sT] }) (elem : TypeId) (hu : P.underlying dT = some (.slice elem)) (hsz : (P.info? elem).map (·.size) = some 1)
    (dp sp : Option Addr) (dLen dCap sLen sCap : Nat) (hd : a.eval d = .slice dp dLen dCap) (hs : a.eval s = .slice sp sLen sCap)
    (g off : Nat) (cur : List Value) (t : TypeId) (hg : w.heap[g]? = some (.cells cur.toArray t (0, 0))) (cs : List Value) (hn : cs.length = Nat.min sLen dLen)
    (hpos : 0 < cs.length → dp = some ⟨g, off, none⟩ ∧ ∃ ad, sp = some ad ∧ ∀ (j : Nat) (v : Value), cs[j]? = some v → w.cell? (ad.add j) = some v)
    (hfit : off + cs.length ≤ cur.length) (h1 : ∀ v ∈ cs, v.oneCell' = true) (B : Nat) (w0 : World) (hb : Below B w0 w) (hBg : B ≤ g)
    (h : ∀ w', Hid (w'.heap[g]? = some (.cells (splice cur off cs).toArray t (0, 0))) → Below B w0 w' → Hid (∀ k, k ≠ g → w'.heap[k]? = w.heap[k]?) → wpList P ops Q rest (a.put o.dst (goInt cs.length)) w') :
    wpList P ops Q (o :: rest) a w := by
  by_cases h0 : cs.length = 0
  · obtain rfl : cs = [] := List.eq_nil_of_length_eq_zero h0
    refine wpList_copy_nothing hgd d s dT sT ho elem hu hsz dp sp dLen dCap sLen sCap hd hs (by simpa using hn.symm) ?_
    exact h w (show _ = _ by simpa [splice] using hg) hb (Lib.hid fun _ _ => rfl)
  · obtain ⟨rfl, ad, rfl, hsrc⟩ := hpos (by omega)
    refine wpList_copy_own hgd d s dT sT ho elem hu hsz g off dLen dCap ad sLen sCap hd hs cur.toArray t hg cs hn hsrc (by simpa using hfit) h1 ?_
    exact h _ (show _ = _ by simpa [splice] using setRow_heap w g _ _ t _ hg) (below_setRow hb hBg _) (Lib.hid fun k hk => setRow_other w g k _ (by omega))

def SpreadPost (w : World) (b : Band) (e : Ending) (w' : World) : Prop := ∃ bb, e = .returned (.pointer (some ⟨bb, 0, none⟩)) ∧ BandM w' w.heap.size bb b ∧ New w w'
/-- What the band's statement leaves. -/
def SpreadMid (w W0 : World) (n : Nat) (z : Int) (s3 : Value) (wx : World) : Prop :=
  ∃ bb g, s3 = .pointer (some ⟨bb, 0, none⟩) ∧ w.heap.size ≤ bb ∧ w.heap.size ≤ g ∧ wx.heap[bb]? = some (.cells #[.slice (some ⟨g, 0, none⟩) n n, .int .i64 z] 164 (0, 0)) ∧ wx.heap[g]? = some (.cells (nums .i64 (List.replicate n 0)).toArray 3 (0, 0)) ∧ New W0 wx

set_option maxHeartbeats 4000000 in
set_option maxRecDepth 100000 in
theorem call_spread (w : World) (st pos fr : Int) (A : Option Addr) (c : Nat) (xs : List Int) (hC : ReadsInt w .i64 A xs.length xs) (hl : xs.length ≤ 100000000) (hf0 : -4398046511104 ≤ fr) (hf1 : fr ≤ 4398046511104) :
    Calls Try.prog 78 #[.agg #[.int .i64 st, .int .i64 pos, .int .i64 fr, .slice A xs.length c]] w (SpreadPost w ⟨xs, -fr⟩) := by
  have hmk := run_make_ints xs.length (by omega)
  obtain ⟨n, hn⟩ : ∃ n, n = xs.length := ⟨_, rfl⟩
  rw [← hn] at hmk hl ⊢
  have HN := Lib.hid hn
  have HC := Lib.hid hC
  have hng : IntKind.i64.wrap (-fr) = -fr := by rw [IntKind.wrap_i64]; omega
  clear hC hn
  go_enter Try.func78, Try.ntmps78
  go_wp2_with fail
  obtain ⟨W0, hW0⟩ : ∃ W0, W0 = w.alloc (.cells #[.int .i64 st, .int .i64 pos, .int .i64 fr, .slice A n c] 69) := ⟨_, rfl⟩
  have hn0 : New w W0 := by rw [hW0]; exact (New.refl _).alloc _
  have hb0 : W0.heap[w.heap.size]? = some (.cells #[.int .i64 st, .int .i64 pos, .int .i64 fr, .slice A n c] 69 (0, 0)) := by rw [hW0]; exact heap_alloc_new _ _
  rw [← hW0]
  have HN0 := Lib.hid hn0; have HB0 := Lib.hid hb0
  have k2 := blk_cell hb0 2 _ rfl
  have k3 := blk_cell hb0 3 _ rfl
  have a2 : ∀ o, (W0.alloc o).cell? ⟨w.heap.size, 2, none⟩ = some (.int .i64 fr) := fun o => ((New.refl W0).alloc o).cell k2
  have a3 : ∀ o, (W0.alloc o).cell? ⟨w.heap.size, 3, none⟩ = some (.slice A n c) := fun o => ((New.refl W0).alloc o).cell k3
  clear hW0 hn0 hb0
  go_cut [3] (fun s3 wx => SpreadMid w W0 n (-fr) s3 wx)
  case first =>
    go_region
    all_goals
      go_wp2
      go_meet
      have hs := HN0.out.size
      refine ⟨W0.heap.size + 1, W0.heap.size, rfl, by omega, by omega, ?_, ?_, (((New.refl W0).alloc _).alloc _).drew⟩
      · exact heap_alloc_at _ _ _ (by simp)
      · exact ((New.refl _).alloc _).blk (heap_alloc_new W0 _)
  case rest =>
    obtain ⟨bb, g, rfl, hbb, hg, hb1, hg1, hn1⟩ := hcut
    clear a2 a3
    have HB1 := Lib.hid hb1; have HG1 := Lib.hid hg1; have HN1 := Lib.hid hn1
    replace k3 := hn1.cell k3
    have c0 := blk_cell hb1 0 _ rfl
    clear hb1 hg1 hn1 k2 hng
    go_wp2
    go_still_tail 6, (by kernel_rfl)
    change wpList _ _ _ _ _ wc.drew
    have hW : New w wc := HN0.out.trans HN1.out
    refine copy_only rfl (.tmp 16) (.tmp 18) 34 34 rfl 3 Try.underlying34 size_int (some ⟨g, 0, none⟩) A n n n c rfl rfl g 0 (nums .i64 (List.replicate n 0)) 3 HG1.out (nums .i64 xs) ?_ ?_ ?_ (one_nums _) w.heap.size w ?_ hg ?_
    rotate_right
    · intro w2 hw2 hb2 hk2
      have HW2 := hw2; have HB2 := Lib.hid hb2
      have hsame : w2.heap[bb]? = wc.heap[bb]? := hk2.out bb (fun e => by
        have h1 := HB1.out
        rw [e, HG1.out] at h1
        injection h1 with h1
        injection h1 with _ h1 _
        exact absurd h1 (by decide))
      clear hw2 hb2 c0 k3
      go_wp2
      go_ret
      refine ⟨bb, rfl, ⟨.slice (some ⟨g, 0, none⟩) n n, ?_, hbb, ?_⟩, ⟨HB2.out⟩⟩
      · rw [hsame]; exact HB1.out
      · have e : splice (nums .i64 (List.replicate n 0)) 0 (nums .i64 xs) = nums .i64 xs := by
          unfold splice
          rw [List.take_zero, List.nil_append, List.drop_eq_nil_of_le (by rw [nums_length, nums_length, List.length_replicate, HN.out]; omega), List.append_nil]
        have h2 := HW2.out
        rw [e] at h2
        have h3 : w2.ownsRow w.heap.size 3 1 (.slice (some ⟨g, 0, none⟩) xs.length n) xs.length (nums .i64 xs) :=
          own_of_blk h2 hg (by rw [HN.out]; exact Nat.le_refl _) (by unfold maxLen; omega) (by simp [nums, HN.out]) (fun j hj => by
            rw [List.getElem?_toArray]
            rw [List.getD_eq_getElem?_getD, List.getElem?_eq_getElem hj]
            simp [nums, hj])
        rw [← HN.out] at h3
        rw [← HN.out]
        exact h3
    · rw [nums_length, ← HN.out]; exact (Nat.min_self n).symm
    · intro h0
      rw [nums_length, ← HN.out] at h0
      obtain ⟨ad, e, hc⟩ := HC.out.2.2 (by rw [← HN.out]; exact h0)
      refine ⟨rfl, ad, e, fun j v hv => ?_⟩
      have hj : j < xs.length := by rw [← nums_length .i64 xs]; exact (List.getElem?_eq_some_iff.1 hv).1
      have := hc j hj
      rw [List.getD_eq_getElem?_getD, List.getElem?_eq_getElem hj] at this
      have hv2 : v = .int .i64 xs[j] := by
        have : (nums .i64 xs)[j]? = some (.int .i64 xs[j]) := by simp [nums, hj]
        rw [this] at hv; injection hv with hv; exact hv.symm
      rw [hv2]
      exact hW.cell this
    · rw [nums_length, nums_length, List.length_replicate, HN.out]; omega
    · exact hW.below.drew

/-! ### trimmed -/
def getC (fr : Int) (xs : List Int) (x : Int) : Int := if 0 ≤ x - fr then xs.getD (x - fr).toNat 0 else 0
/-- What trimming leaves. -/
structure TrimOf (fr : Int) (xs : List Int) (fr' : Int) (xs' : List Int) : Prop where
  get : ∀ x, getC fr' xs' x = getC fr xs x
  nil : xs' = [] → fr' = 0
  first : 0 < xs'.length → xs'.getD 0 0 ≠ 0
  last : 0 < xs'.length → xs'.getD (xs'.length - 1) 0 ≠ 0
  len : xs'.length ≤ xs.length
theorem ReadsInt.cut {w : World} {A : Option Addr} {n : Nat} {xs : List Int} (h : ReadsInt w .i64 A n xs) (k : Nat) (hk : k ≤ n) : ReadsInt w .i64 A k (xs.take k) := by
  refine ⟨by rw [List.length_take, h.1]; omega, by have := h.2.1; omega, fun h0 => ?_⟩
  obtain ⟨ad, e, hc⟩ := h.2.2 (by omega)
  refine ⟨ad, e, fun j hj => ?_⟩
  rw [hc j (by omega), List.getD_eq_getElem?_getD, List.getD_eq_getElem?_getD, List.getElem?_take, if_pos hj]
theorem getC_nil (fr x : Int) : getC fr [] x = 0 := by unfold getC; split <;> rfl
theorem getC_take {fr : Int} {xs : List Int} {k : Nat} (h : ∀ j, k ≤ j → xs.getD j 0 = 0) (x : Int) : getC fr (xs.take k) x = getC fr xs x := by
  unfold getC
  split
  · rw [List.getD_eq_getElem?_getD, List.getElem?_take]
    split
    · rw [List.getD_eq_getElem?_getD]
    · rename_i h1
      rw [h _ (by omega)]; rfl
  · rfl
theorem getC_drop {fr : Int} {xs : List Int} (h : xs.getD 0 0 = 0) (x : Int) : getC (fr + 1) (xs.drop 1) x = getC fr xs x := by
  unfold getC
  by_cases h1 : 0 ≤ x - (fr + 1)
  · rw [if_pos h1, if_pos (by omega), List.getD_eq_getElem?_getD, List.getElem?_drop, List.getD_eq_getElem?_getD]
    congr 2
    omega
  · rw [if_neg h1]
    split
    · have : (x - fr).toNat = 0 := by omega
      rw [this, h]
    · rfl
/-- A configuration in a block of the call's. -/
def CfgM (w : World) (b : Nat) (st pos fr : Int) (A : Option Addr) (n c : Nat) : Prop := w.heap[b]? = some (.cells #[.int .i64 st, .int .i64 pos, .int .i64 fr, .slice A n c] 69 (0, 0))
def TrimRel1 (w : World) (st pos fr : Int) (A : Option Addr) (c : Nat) (xs : List Int) (gk : Nat) (wr : World) : Prop :=
  CfgM wr w.heap.size st pos fr A gk c ∧ CfgM wr (w.heap.size + 1) 0 0 0 none 0 0 ∧ New w wr ∧ gk ≤ xs.length ∧ ∀ j, gk ≤ j → xs.getD j 0 = 0
def TrimRel2 (w0 w : World) (st pos fr : Int) (ys : List Int) (gk : Nat) (wr : World) : Prop :=
  ∃ fr' A c zs, CfgM wr w.heap.size st pos fr' A gk c ∧ CfgM wr (w.heap.size + 1) 0 0 0 none 0 0 ∧ New w wr ∧ ReadsInt w0 .i64 A gk zs ∧ gk ≤ c ∧ (∀ x, getC fr' zs x = getC fr ys x) ∧ (0 < gk → zs.getD (gk - 1) 0 = ys.getD (ys.length - 1) 0) ∧ gk ≤ ys.length ∧ fr' + gk = fr + ys.length
theorem trim_set {w : World} {b : Nat} {st pos fr : Int} {A : Option Addr} {n c : Nat} (h : CfgM w b st pos fr A n c) (A' : Option Addr) (n' c' : Nat) (fr' : Int) :
    CfgM ((w.setCell ⟨b, 3, none⟩ (.slice A' n' c')).setCell ⟨b, 2, none⟩ (.int .i64 fr')) b st pos fr' A' n' c' := by
  have := blk_set (blk_set h 3 (.slice A' n' c')) 2 (.int .i64 fr')
  simpa [CfgM] using this
theorem trim_set2 {w : World} {b : Nat} {st pos fr : Int} {A : Option Addr} {n c : Nat} (h : CfgM w (b + 1) st pos fr A n c) (u v : Value) :
    CfgM ((w.setCell ⟨b, 3, none⟩ u).setCell ⟨b, 2, none⟩ v) (b + 1) st pos fr A n c :=
  ((Below.heap_setCell _ _ _ _ (by exact Nat.succ_ne_self _)).trans (Below.heap_setCell _ _ _ _ (by exact Nat.succ_ne_self _))).trans h
theorem addr_next (ad : Addr) (j : Nat) : (⟨ad.block, ad.off + 1, none⟩ : Addr).add j = ad.add (j + 1) := by
  unfold Addr.add
  by_cases h : j = 0
  · subst h; simp
  · simp [h]; omega
theorem cfg_store {W : World} {b : Nat} {st0 pos0 fr0 : Int} {A0 : Option Addr} {n0 c0 : Nat} (h : CfgM W b st0 pos0 fr0 A0 n0 c0) (st pos fr : Int) (A : Option Addr) (n c : Nat) :
    CfgM ((((W.setCell ⟨b, 0, none⟩ (.int .i64 st)).setCell ⟨b, 1, none⟩ (.int .i64 pos)).setCell ⟨b, 2, none⟩ (.int .i64 fr)).setCell ⟨b, 3, none⟩ (.slice A n c)) b st pos fr A n c := by
  have := blk_set (blk_set (blk_set (blk_set h 0 (.int .i64 st)) 1 (.int .i64 pos)) 2 (.int .i64 fr)) 3 (.slice A n c)
  simpa [CfgM] using this
theorem New.set4 {w W : World} (h : New w W) {b : Nat} (hb : w.heap.size ≤ b) (u0 u1 u2 u3 : Value) : New w ((((W.setCell ⟨b, 0, none⟩ u0).setCell ⟨b, 1, none⟩ u1).setCell ⟨b, 2, none⟩ u2).setCell ⟨b, 3, none⟩ u3) :=
  (((h.set (p := ⟨b, 0, none⟩) hb u0).set (p := ⟨b, 1, none⟩) hb u1).set (p := ⟨b, 2, none⟩) hb u2).set (p := ⟨b, 3, none⟩) hb u3
theorem cfg_results {W : World} {b : Nat} {st pos fr : Int} {A : Option Addr} {n c : Nat} (h : CfgM W b st pos fr A n c) (tmps : Array Value) (ht : tmps[2]?.getD undef = .pointer (some ⟨b, 0, none⟩)) :
    (results Try.f100 tmps).run Try.prog W = .ok (.agg #[.int .i64 st, .int .i64 pos, .int .i64 fr, .slice A n c]) W := by
  have r0 : W.cell? ⟨b, 0, none⟩ = some (.int .i64 st) := blk_cell h 0 _ rfl
  have r1 : W.cell? ⟨b, 1, none⟩ = some (.int .i64 pos) := blk_cell h 1 _ rfl
  have r2 : W.cell? ⟨b, 2, none⟩ = some (.int .i64 fr) := blk_cell h 2 _ rfl
  have r3 : W.cell? ⟨b, 3, none⟩ = some (.slice A n c) := blk_cell h 3 _ rfl
  simp [results, Try.results100, go_sem, ht, r0, r1, r2, r3]
def TrimMid (w : World) (st pos fr : Int) (A : Option Addr) (c : Nat) (xs : List Int) (wx : World) : Prop :=
  ∃ k, CfgM wx w.heap.size st pos fr A k c ∧ CfgM wx (w.heap.size + 1) 0 0 0 none 0 0 ∧ New w wx ∧ k ≤ xs.length ∧ (∀ j, k ≤ j → xs.getD j 0 = 0) ∧ (0 < k → xs.getD (k - 1) 0 ≠ 0)
def TrimEnd (w0 w : World) (st pos fr : Int) (ys : List Int) (wx : World) : Prop :=
  ∃ k fr' A c zs, CfgM wx w.heap.size st pos fr' A k c ∧ CfgM wx (w.heap.size + 1) 0 0 0 none 0 0 ∧ New w wx ∧ ReadsInt w0 .i64 A k zs ∧ k ≤ c ∧ (∀ x, getC fr' zs x = getC fr ys x) ∧ (0 < k → zs.getD (k - 1) 0 = ys.getD (ys.length - 1) 0) ∧ (0 < k → zs.getD 0 0 ≠ 0) ∧ k ≤ ys.length
def TrimPost (w0 w : World) (st pos fr : Int) (xs : List Int) (e : Ending) (w' : World) : Prop :=
  ∃ fr' A c xs', e = .returned (.agg #[.int .i64 st, .int .i64 pos, .int .i64 fr', .slice A xs'.length c]) ∧ ReadsInt w0 .i64 A xs'.length xs' ∧ xs'.length ≤ c ∧ TrimOf fr xs fr' xs' ∧ New w w'

set_option maxHeartbeats 8000000 in
set_option maxRecDepth 100000 in
theorem call_trimmed (w0 w : World) (hw0 : New w0 w) (st pos fr : Int) (A : Option Addr) (c : Nat) (xs : List Int) (hC : ReadsInt w0 .i64 A xs.length xs) (hc : xs.length ≤ c) (hl : xs.length ≤ 100000000) (hf : xs ≠ [] → -4398046511104 ≤ fr ∧ fr ≤ 4398046511104) :
    Calls Try.prog 100 #[.agg #[.int .i64 st, .int .i64 pos, .int .i64 fr, .slice A xs.length c]] w (TrimPost w0 w st pos fr xs) := by
  have HC := Lib.hid hC
  have HW0 := Lib.hid hw0
  have HF := Lib.hid hf
  clear hC hw0 hf
  obtain ⟨n, hn⟩ : ∃ n, n = xs.length := ⟨_, rfl⟩
  have HN := Lib.hid hn
  rw [← hn] at hc hl ⊢
  clear hn
  go_enter Try.func100, Try.ntmps100
  go_upto_block 0 with fail
  obtain ⟨W0, hW0⟩ : ∃ W0, W0 = (w.alloc (.cells #[.int .i64 st, .int .i64 pos, .int .i64 fr, .slice A n c] 69)).alloc (.cells #[.int .i64 0, .int .i64 0, .int .i64 0, .slice none 0 0] 69) := ⟨_, rfl⟩
  have hR0 : TrimRel1 w st pos fr A c xs n W0 := by
    rw [hW0]
    refine ⟨?_, ?_, ((New.refl _).alloc _).alloc _, by rw [HN.out]; exact Nat.le_refl _, fun j hj => ?_⟩
    · exact ((New.refl _).alloc _).blk (heap_alloc_new w _)
    · exact heap_alloc_at _ _ _ (by simp)
    · rw [List.getD_eq_getElem?_getD, List.getElem?_eq_none (by rw [← HN.out]; exact hj)]; rfl
  rw [← hW0]
  have HR0 := Lib.hid hR0
  clear hW0 hR0
  go_cut [] (fun wx => TrimMid w st pos fr A c xs wx)
  case first =>
    as_aux_lemma =>
      go_wp2
      go_loopg [] n (fun (gk : Nat) (wr : World) => TrimRel1 w st pos fr A c xs gk wr)
      case atStart => exact HR0.out
      case round =>
        have HREL := Lib.hid hrel
        obtain ⟨h1, h2, hn1, hle, hz⟩ := hrel
        have HZ := Lib.hid hz
        have k3 := blk_cell h1 3 _ rfl
        have f3 := blk_free h1 3
        have H1 := Lib.hid h1; have H2 := Lib.hid h2; have HN1 := Lib.hid hn1; have HLE := Lib.hid hle
        clear hz h1 h2 hn1 hle
        by_cases hg0 : gk = 0
        · subst hg0
          go_wp2
          go_meet
          exact ⟨0, H1.out, H2.out, HN1.out, HLE.out, HZ.out, fun h => absurd h (Nat.lt_irrefl 0)⟩
        · obtain ⟨m, hm⟩ : ∃ m, gk = m + 1 := ⟨gk - 1, by omega⟩
          subst hm
          have hlc : m + 1 ≤ n := by have := HLE.out; rw [← HN.out] at this; exact this
          obtain ⟨ad, hA, hcell⟩ := HC.out.2.2 (by have := HLE.out; omega)
          have hcm := (HW0.out.trans HN1.out).cell (hcell m (by have := HLE.out; omega))
          subst hA
          clear hcell
          obtain ⟨v, hv⟩ : ∃ v, v = xs.getD m 0 := ⟨_, rfl⟩
          rw [← hv] at hcm
          have HV := Lib.hid hv
          clear hv
          by_cases hv0 : v = 0
          · subst hv0
            go_wp2
            go_roundg m
            case measure => omega
            case rel =>
              refine ⟨?_, ?_, HN1.out.set (p := ⟨w.heap.size, 3, none⟩) (Nat.le_refl _) _, by have := HLE.out; omega, fun j hj => ?_⟩
              · have := blk_set H1.out 3 (.slice (some ad) m c)
                simpa [CfgM] using this
              · exact (Below.heap_setCell _ _ _ _ (by exact Nat.succ_ne_self _)).trans H2.out
              · by_cases e : j = m
                · subst e; exact HV.out.symm
                · exact HZ.out j (by omega)
          · have hvb : (v == 0) = false := by simpa using hv0
            go_wp2
            go_meet
            exact ⟨m + 1, H1.out, H2.out, HN1.out, HLE.out, HZ.out, fun _ => by rw [Nat.add_sub_cancel, ← HV.out]; exact hv0⟩
  case rest =>
    obtain ⟨k, h1, h2, hn1, hle, hz, hlast⟩ := hcut
    have hR2 : TrimRel2 w0 w st pos fr (xs.take k) k wc := ⟨fr, A, c, xs.take k, h1, h2, hn1, ReadsInt.cut HC.out k hle, by have := HN.out; omega, fun _ => rfl, fun _ => by rw [List.length_take, Nat.min_eq_left hle], by rw [List.length_take]; omega, by rw [List.length_take]; omega⟩
    have HR2 := Lib.hid hR2; have HLE := Lib.hid hle; have HZ := Lib.hid hz; have HLAST := Lib.hid hlast
    have hyl : (xs.take k).length ≤ 100000000 := by rw [List.length_take]; have := HN.out; omega
    have hyk : (xs.take k).length = k := by rw [List.length_take]; omega
    obtain ⟨ys, hys⟩ : ∃ ys, ys = xs.take k := ⟨_, rfl⟩
    rw [← hys] at HR2 hyl hyk
    have HYS := Lib.hid hys; have HYK := Lib.hid hyk
    clear h1 h2 hn1 hle hz hlast hR2 hys hyk
    go_upto_block 2 with fail
    go_cut [] (fun wx => TrimEnd w0 w st pos fr ys wx)
    case first =>
      as_aux_lemma =>
        go_wp2
        go_loopg [] k (fun (gk : Nat) (wr : World) => TrimRel2 w0 w st pos fr ys gk wr)
        case atStart => exact HR2.out
        case round =>
          obtain ⟨fr1, A1, c1, zs, h1, h2, hn1, hrd, hgc, hget, hlst, hgl, hfk⟩ := hrel
          have k2 := blk_cell h1 2 _ rfl
          have k3 := blk_cell h1 3 _ rfl
          have f2 := blk_free h1 2
          have f3 := blk_free h1 3
          have H1 := Lib.hid h1; have H2 := Lib.hid h2; have HN1 := Lib.hid hn1; have HRD := Lib.hid hrd; have HGET := Lib.hid hget; have HLST := Lib.hid hlst; have HGL := Lib.hid hgl; have HFK := Lib.hid hfk; have HGC := Lib.hid hgc
          clear h1 h2 hn1 hrd hget hlst hfk
          by_cases hg0 : gk = 0
          · subst hg0
            go_wp2
            go_meet
            exact ⟨0, fr1, A1, c1, zs, H1.out, H2.out, HN1.out, HRD.out, HGC.out, HGET.out, fun h => absurd h (Nat.lt_irrefl 0), fun h => absurd h (Nat.lt_irrefl 0), HGL.out⟩
          · obtain ⟨m, hm⟩ : ∃ m, gk = m + 1 := ⟨gk - 1, by omega⟩
            subst hm
            have hfx := HF.out (fun e => by have h1 := HYS.out; rw [e] at h1; rw [h1] at hgl; simp at hgl)
            have hfr0 : -5000000000000 ≤ fr1 := by have h1 := HFK.out; have h2 := hfx.1; have h3 := hfx.2; omega
            have hfr1 : fr1 ≤ 5000000000000 := by have h1 := HFK.out; have h2 := hfx.1; have h3 := hfx.2; omega
            clear hfx
            obtain ⟨ad, hA, hcell⟩ := HRD.out.2.2 (by omega)
            have hcm := (HW0.out.trans HN1.out).cell (hcell 0 (by omega))
            subst hA
            have HCELL := Lib.hid hcell
            clear hcell
            obtain ⟨v, hv⟩ : ∃ v, v = zs.getD 0 0 := ⟨_, rfl⟩
            rw [← hv] at hcm
            have had0 : ad.add 0 = ad := by unfold Addr.add; split <;> simp_all
            rw [had0] at hcm
            have HV := Lib.hid hv
            clear hv had0
            by_cases hv0 : v = 0
            · subst hv0
              by_cases hc1 : c1 = 1
              · subst hc1
                have hm0 : m = 0 := by omega
                subst hm0
                go_wp2
                go_roundg 0
                case measure => omega
                case rel =>
                  refine ⟨fr1 + 1, some ad, 0, zs.drop 1, trim_set H1.out _ _ _ _, trim_set2 H2.out _ _, (HN1.out.set (p := ⟨w.heap.size, 3, none⟩) (Nat.le_refl _) _).set (p := ⟨w.heap.size, 2, none⟩) (Nat.le_refl _) _, ⟨by rw [List.length_drop, HRD.out.1], by omega, fun h => absurd h (Nat.lt_irrefl 0)⟩, Nat.le_refl 0, fun x => by rw [getC_drop HV.out.symm]; exact HGET.out x, fun h => absurd h (Nat.lt_irrefl 0), by omega, by have := HFK.out; omega⟩
              · have q1 : ¬ (1 = c1) := fun e => hc1 e.symm
                have q2 : 1 ≤ c1 := by omega
                go_wp2
                go_roundg m
                case measure => omega
                case rel =>
                  refine ⟨fr1 + 1, some ⟨ad.block, ad.off + 1, none⟩, c1 - 1, zs.drop 1, trim_set H1.out _ _ _ _, trim_set2 H2.out _ _, (HN1.out.set (p := ⟨w.heap.size, 3, none⟩) (Nat.le_refl _) _).set (p := ⟨w.heap.size, 2, none⟩) (Nat.le_refl _) _, ⟨by rw [List.length_drop, HRD.out.1]; omega, by omega, fun _ => ⟨_, rfl, fun j hj => ?_⟩⟩, by have := HGC.out; omega, fun x => by rw [getC_drop HV.out.symm]; exact HGET.out x, fun h => ?_, by omega, by have := HFK.out; omega⟩
                  · rw [addr_next, HCELL.out (j + 1) (by omega), List.getD_eq_getElem?_getD, List.getD_eq_getElem?_getD, List.getElem?_drop, Nat.add_comm 1 j]
                  · have := HLST.out (by omega)
                    rw [← this, List.getD_eq_getElem?_getD, List.getElem?_drop, List.getD_eq_getElem?_getD]
                    congr 2
                    omega
            · have hvb : (v == 0) = false := by simpa using hv0
              go_wp2
              go_meet
              exact ⟨m + 1, fr1, _, c1, zs, H1.out, H2.out, HN1.out, HRD.out, HGC.out, HGET.out, HLST.out, fun _ => by rw [← HV.out]; exact hv0, HGL.out⟩
    case rest =>
      obtain ⟨j, fr1, A1, c1, zs, h1, h2, hn1, hrd, hgc, hget, hlst, hfst, hjl⟩ := hcut
      clear HR2
      have k2 := blk_cell h1 2 _ rfl
      have k3 := blk_cell h1 3 _ rfl
      have k0 := blk_cell h1 0 _ rfl
      have k1 := blk_cell h1 1 _ rfl
      have f2 := blk_free h1 2
      have f3 := blk_free h1 3
      have g0 := blk_cell h2 0 _ rfl
      have g1 := blk_cell h2 1 _ rfl
      have g2 := blk_cell h2 2 _ rfl
      have g3 := blk_cell h2 3 _ rfl
      have e0 := blk_free h2 0
      have e1 := blk_free h2 1
      have e2 := blk_free h2 2
      have e3 := blk_free h2 3
      have hget2 : ∀ x, getC fr1 zs x = getC fr xs x := fun x => by rw [hget, HYS.out]; exact getC_take HZ.out x
      have H1 := Lib.hid h1; have H2 := Lib.hid h2; have HN1 := Lib.hid hn1; have HRD := Lib.hid hrd; have HGET := Lib.hid hget2; have HLST := Lib.hid hlst; have HFST := Lib.hid hfst; have HGC := Lib.hid hgc
      clear h1 h2 hn1 hrd hget hget2 hlst hfst hgc
      by_cases hj0 : j = 0
      · as_aux_lemma =>
          subst hj0
          have hz : zs = [] := List.eq_nil_of_length_eq_zero HRD.out.1
          have HZS := Lib.hid hz
          clear hz
          go_wp2
          have hc2 : CfgM ((wc.setCell ⟨w.heap.size, 2, none⟩ (.int .i64 0)).setCell ⟨w.heap.size, 3, none⟩ (.slice none 0 0)) (w.heap.size + 1) 0 0 0 none 0 0 :=
            ((Below.heap_setCell _ _ _ _ (by exact Nat.succ_ne_self _)).trans (Below.heap_setCell _ _ _ _ (by exact Nat.succ_ne_self _))).trans H2.out
          have hc3 := cfg_store hc2 st pos 0 none 0 0
          have hnw := ((HN1.out.set (p := ⟨w.heap.size, 2, none⟩) (Nat.le_refl _) (.int .i64 0)).set (p := ⟨w.heap.size, 3, none⟩) (Nat.le_refl _) (.slice none 0 0)).set4 (b := w.heap.size + 1) (Nat.le_succ _) (.int .i64 st) (.int .i64 pos) (.int .i64 0) (.slice none 0 0)
          generalize ((((((wc.setCell ⟨w.heap.size, 2, none⟩ (.int .i64 0)).setCell ⟨w.heap.size, 3, none⟩ (.slice none 0 0)).setCell ⟨w.heap.size + 1, 0, none⟩ (.int .i64 st)).setCell ⟨w.heap.size + 1, 1, none⟩ (.int .i64 pos)).setCell ⟨w.heap.size + 1, 2, none⟩ (.int .i64 0)).setCell ⟨w.heap.size + 1, 3, none⟩ (.slice none 0 0)) = W9 at hc3 hnw ⊢
          refine bodyPost_ret (cfg_results hc3 _ rfl) rfl ?_
          refine ⟨0, none, 0, [], rfl, ⟨rfl, by simp, fun h => absurd h (Nat.lt_irrefl 0)⟩, Nat.le_refl 0, ⟨fun x => ?_, fun _ => rfl, fun h => absurd h (Nat.lt_irrefl 0), fun h => absurd h (Nat.lt_irrefl 0), Nat.zero_le _⟩, hnw⟩
          rw [← HGET.out, HZS.out, getC_nil, getC_nil]
      · as_aux_lemma =>
          have hj1 : 0 < j := by omega
          go_wp2
          have hc3 := cfg_store H2.out st pos fr1 A1 j c1
          have hnw := HN1.out.set4 (b := w.heap.size + 1) (Nat.le_succ _) (.int .i64 st) (.int .i64 pos) (.int .i64 fr1) (.slice A1 j c1)
          generalize ((((wc.setCell ⟨w.heap.size + 1, 0, none⟩ (.int .i64 st)).setCell ⟨w.heap.size + 1, 1, none⟩ (.int .i64 pos)).setCell ⟨w.heap.size + 1, 2, none⟩ (.int .i64 fr1)).setCell ⟨w.heap.size + 1, 3, none⟩ (.slice A1 j c1)) = W9 at hc3 hnw ⊢
          refine bodyPost_ret (cfg_results hc3 _ rfl) rfl ?_
          have hlz : zs.length = j := HRD.out.1
          have hyk := HYK.out
          refine ⟨fr1, A1, c1, zs, by rw [hlz], by rw [hlz]; exact HRD.out, by rw [hlz]; exact HGC.out, ⟨HGET.out, fun h => absurd (by rw [h] at hlz; exact hlz.symm) hj0, fun _ => HFST.out hj1, fun _ => ?_, by have := HLE.out; omega⟩, hnw⟩
          rw [hlz, HLST.out hj1, hyk, HYS.out]
          have h5 := HLAST.out (by omega)
          rw [List.getD_eq_getElem?_getD, List.getElem?_take, if_pos (by omega), ← List.getD_eq_getElem?_getD]
          exact h5
end Go.Proofs.Ytgnhlaonckognaa
