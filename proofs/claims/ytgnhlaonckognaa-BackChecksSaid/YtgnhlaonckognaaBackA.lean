/- slices.Clone and slices.Insert at []int walked; partial configurations of the call's own in memory. Conditions: slices shorter than 2^43. -/
import Derived.Test.YtgnhlaonckognaaPrOrder
import Derived.Test.YtgnhlaonckognaaLay
import Derived.WalkSpells
namespace Go.Proofs.Ytgnhlaonckognaa
open Go.RowKit Go.Proofs.YtgnhlaonckognaaW.PrintWords
set_option linter.unusedVariables false
set_option linter.unusedSimpArgs false

/-- A row of ints of the call's own, as the kinds say it. -/
theorem R_of_own {w : World} {base : Nat} {v : Value} {xs : List Int} (h : w.ownsRow base 3 1 v xs.length (nums .i64 xs)) : (Kd.int .i64).R 3 w base (fun _ => True) v xs := by
  refine ⟨fun _ _ => trivial, nums .i64 xs, h, by simp [nums, Kd.int, Kd.scalar], fun j p hj => ?_⟩
  show List.take 1 (List.drop (j * 1) (nums .i64 xs)) = [.int .i64 p]
  obtain ⟨hl, he⟩ := List.getElem?_eq_some_iff.1 hj
  have hl' : j * 1 < (nums .i64 xs).length := by rw [nums_length]; omega
  rw [List.drop_eq_getElem_cons hl']
  simp [nums, he]
theorem own_of_R {w : World} {base : Nat} {ok : Nat → Prop} {v : Value} {xs : List Int} (h : (Kd.int .i64).R 3 w base ok v xs) : w.ownsRow base 3 1 v xs.length (nums .i64 xs) := by
  obtain ⟨_, inner, ho, hl, hr⟩ := h
  have e : inner = nums .i64 xs := by
    refine List.ext_getElem? fun j => ?_
    have hsz : (Kd.int .i64).sz = 1 := rfl
    rcases Nat.lt_or_ge j xs.length with hj | hj
    · have := hr j xs[j] (List.getElem?_eq_getElem hj)
      have h1 : List.take 1 (List.drop (j * 1) inner) = [.int .i64 xs[j]] := this
      have hji : j < inner.length := by rw [hl, hsz]; omega
      rw [Nat.mul_one, List.drop_eq_getElem_cons hji] at h1
      rw [List.take_succ_cons, List.take_zero] at h1
      injection h1 with h2
      rw [List.getElem?_eq_getElem hji, h2]
      simp [nums, hj]
    · rw [List.getElem?_eq_none (by rw [hl, hsz]; omega), List.getElem?_eq_none (by rw [nums_length]; omega)]
  rw [e] at ho
  exact ho

set_option maxHeartbeats 1000000 in
set_option maxRecDepth 10000 in
theorem call_Clone (w : World) (A : Option Addr) (c : Nat) (xs : List Int) (hC : (Kd.int .i64).C w A xs.length xs) (hl : xs.length ≤ 8796093022208) :
    Calls Try.prog 82 #[.slice A xs.length c] w fun e w' => ∃ v, e = .returned v ∧ w'.ownsRow w.heap.size 3 1 v xs.length (nums .i64 xs) ∧ New w w' := by
  have hE := fun (w : World) => Lib.run_eql_slice_nil (P := Try.prog) w 34 3 A xs.length c 0 0 Try.underlying34
  have hR := C_reads hC
  cases A with
  | none =>
    have h0 : xs = [] := by
      rcases Nat.eq_zero_or_pos xs.length with h | h
      · exact List.eq_nil_of_length_eq_zero h
      · obtain ⟨ad, e, _⟩ := hR.2.2 h
        exact absurd e (by simp)
    subst h0
    clear hR hC hE
    have hE := fun (w : World) => Lib.run_eql_slice_nil (P := Try.prog) w 34 3 none 0 c 0 0 Try.underlying34
    simp only [List.length_nil]
    go_enter Try.func82, Try.ntmps82
    go_wp2
    go_ret
    exact ⟨_, rfl, own_nil _ _ _ _, New.refl _⟩
  | some ad =>
    have HR := Lib.hid hR
    clear hR hC
    go_enter Try.func82, Try.ntmps82
    go_wp2_with (at_builtin; refine print_append_row (w0 := w) w.heap.size rfl (.tmp 5) (.tmp 6) 34 3 .i64 8 rfl Try.underlying34 info_int (by decide) (.slice (some ⟨w.heap.size, 0, none⟩) 0 0) [] xs (some ad) xs.length c rfl rfl ?_ ?_ ?_ ?_ ?_ ?_; rotate_right; intro v1 w1 hown hb hg hat)
    · go_ret
      exact ⟨_, rfl, by simpa using hown, ⟨hb⟩⟩
    · exact World.ownsRow_made w #[] 0 (Nat.le_refl _) (Nat.zero_le _) rfl
    · exact HR.out.below (below_alloc (Below.refl _ _) _)
    · exact below_alloc (Below.refl _ _) _
    · exact (below_alloc (Below.refl w.heap.size w) _).size
    · simp; omega

theorem setCells_blk {b : Nat} {t : TypeId} {fr : Nat × Nat} (vs : List Value) : ∀ {w : World} {cur : Array Value} (o : Nat), w.heap[b]? = some (.cells cur t fr) → o + vs.length ≤ cur.size →
    ∃ cur', (w.setCells b o vs).heap[b]? = some (.cells cur' t fr) ∧ cur'.size = cur.size ∧ ∀ j, cur'[j]? = if o ≤ j ∧ j < o + vs.length then vs[j - o]? else cur[j]? := by
  induction vs with
  | nil => intro w cur o h hs; exact ⟨cur, h, rfl, fun j => by rw [if_neg (fun h => by simp at h; omega)]⟩
  | cons v vs ih =>
    intro w cur o h hs
    simp only [List.length_cons] at hs
    obtain ⟨cur', h1, h2, h3⟩ := ih (o + 1) (blk_set h o v) (by simp; omega)
    refine ⟨cur', h1, by rw [h2]; simp, fun j => ?_⟩
    rw [h3, List.length_cons]
    by_cases hj : o + 1 ≤ j ∧ j < o + 1 + vs.length
    · rw [if_pos hj, if_pos (by omega), show j - o = (j - (o + 1)) + 1 by omega, List.getElem?_cons_succ]
    · rw [if_neg hj]
      by_cases e : j = o
      · subst e
        rw [if_pos (by omega), Nat.sub_self, List.getElem?_cons_zero, Array.getElem?_setIfInBounds_self, if_pos (by omega)]
      · rw [if_neg (by omega), Array.getElem?_setIfInBounds_ne (fun h => e h.symm)]
theorem setCells_far (b : Nat) (vs : List Value) : ∀ (w : World) (o k : Nat), k ≠ b → (w.setCells b o vs).heap[k]? = w.heap[k]? := by
  induction vs with
  | nil => intro w o k _; rfl
  | cons v vs ih =>
    intro w o k hk
    show ((w.setCell ⟨b, o, none⟩ v).setCells b (o + 1) vs).heap[k]? = _
    rw [ih _ _ _ hk]
    exact Below.heap_setCell _ _ _ _ hk
theorem Chg.setCells {S : Nat → Prop} {w w1 : World} (h : Chg S w w1) {b : Nat} (hb : Sn S w b) (vs : List Value) : ∀ o, Chg S w (w1.setCells b o vs) := by
  induction vs generalizing w1 with
  | nil => intro o; exact h
  | cons v vs ih => intro o; exact ih (h.setCell (p := ⟨b, o, none⟩) hb v) (o + 1)
/-- What is known of slices.Insert(s, 0, x), s of the call's own. -/
def Ins (w : World) (base : Nat) (v : Value) (l : List Int) (e : Ending) (w' : World) : Prop :=
  ∃ v', e = .returned v' ∧ w'.ownsRow base 3 1 v' l.length (nums .i64 l) ∧ Chg (fun k => v.ownBlock = some k) w w'
theorem call_Insert0 (w : World) (base : Nat) (v : Value) (xs : List Int) (x : Int) (vb : Nat) (h : w.ownsRow base 3 1 v xs.length (nums .i64 xs)) (hv : w.heap[vb]? = some (.cells #[.int .i64 x] 3 (0, 0)))
    (hne : ¬ v.ownBlock = some vb) (hl : xs.length ≤ 8796093022208) (hbase : base ≤ w.heap.size) :
    Calls Try.prog 81 #[v, .int .i64 0, .slice (some ⟨vb, 0, none⟩) 1 1] w (Ins w base v (x :: xs)) := by
  have hvs : ∀ j u, [Value.int .i64 x][j]? = some u → w.cell? ⟨vb, 0 + j, none⟩ = some u := by
    intro j u hj
    rw [Nat.zero_add]
    exact blk_cell hv j u (by simpa using hj)
  have h1v : ∀ u ∈ [Value.int .i64 x], u.oneCell' = true := by intro u hu; simp at hu; subst hu; rfl
  have hgrow : ∀ (A : Option Addr) (c : Nat), v = .slice A 0 c → xs = [] → c < 1 → Calls Try.prog 81 #[v, .int .i64 0, .slice (some ⟨vb, 0, none⟩) 1 1] w (Ins w base v (x :: xs)) := by
    intro A c e hxs hc
    subst hxs
    subst e
    refine (Any2.slices_Insert_int_end_grow insInt A 0 c vb 0 1 1 [] [.int .i64 x] w (by omega) (by omega) hc (by omega) rfl rfl (fun _ => rfl) (fun a _ j u hj => by simp at hj) hvs h1v).mono ?_
    rintro e w' ⟨rfl, rfl⟩
    refine ⟨_, rfl, ?_, (Chg.refl _ _).drew.alloc _⟩
    have hge := grownCap_ge w (0 + 1) c (insInt_ren.t 3)
    have hle := grownCap_le_maxLen w (0 + 1) c (insInt_ren.t 3) (by unfold maxLen; omega)
    generalize grownCap w (0 + 1) c (insInt_ren.t 3) = G at hge hle ⊢
    refine own_of_blk (heap_alloc_new w.drew _) hbase hge hle ?_ ?_
    · rw [Array.size_append, size_zeroCells]
      show 1 + (G - (0 + 1)) * 1 = G
      omega
    · intro j hj
      have : j = 0 := by simpa using hj
      subst this
      rw [Array.getElem?_append_left (by simp)]
      rfl
  rcases h.2 with ⟨hn, h0⟩ | ⟨g, cap, cur, hvv, hbg, hh, hnc, hcm, hcs, htk⟩
  · exact hgrow none 0 hn (List.eq_nil_of_length_eq_zero h0) (by omega)
  · rcases Nat.eq_zero_or_pos xs.length with h0 | h0
    · have hxs : xs = [] := List.eq_nil_of_length_eq_zero h0
      by_cases hc : cap < 1
      · exact hgrow (some ⟨g, 0, none⟩) cap (by rw [hvv, h0]) hxs hc
      · subst hxs
        subst hvv
        obtain ⟨cur', hcur, _⟩ := blk_of_own h
        have hcc : cur' = cur := by rw [hh] at hcur; injection hcur with hcur; injection hcur with hcur; exact hcur.symm
        refine (Any2.slices_Insert_int_end_room insInt g 0 0 cap vb 0 1 1 [.int .i64 x] w (by omega) (by omega) (by unfold maxLen at hcm; omega) rfl (fun j hj => ?_) (fun j hj => blk_free hh _) hvs h1v).mono ?_
        · have : j < cur.size := by omega
          rw [blk_cell hh (0 + 0 + j) cur[j] (by simp [this])]; rfl
        · rintro e w' ⟨rfl, rfl⟩
          obtain ⟨cur2, k1, k2, k3⟩ := setCells_blk [.int .i64 x] 0 hh (by simp; omega)
          refine ⟨_, rfl, ?_, (Chg.refl (fun k => (Value.slice (some ⟨g, 0, none⟩) [].length cap).ownBlock = some k) w).setCells (.inl rfl) _ _⟩
          refine own_of_blk k1 hbg (by simp; omega) hcm (by omega) ?_
          intro j hj
          have : j = 0 := by simpa using hj
          subst this
          rw [k3, if_pos (by simp)]
          rfl
    · subst hvv
      obtain ⟨cur', hcur, _, _, _, hsz, _, hcell⟩ := blk_of_own h
      have hcc : cur' = cur := by rw [hh] at hcur; injection hcur with hcur; injection hcur with hcur; exact hcur.symm
      subst hcc
      have hcells : ∀ j u, (nums .i64 xs)[j]? = some u → w.cell? ⟨g, 0 + j, none⟩ = some u := by
        intro j u hj
        have hjl : j < xs.length := by have := (List.getElem?_eq_some_iff.1 hj).1; rwa [nums_length] at this
        rw [Nat.zero_add]
        refine blk_cell hh j u ?_
        rw [hcell j hjl, ← hj, List.getD_eq_getElem?_getD, List.getElem?_eq_getElem hjl]
        simp [nums, hjl]
      have h1c : ∀ u ∈ nums .i64 xs, u.oneCell' = true := by intro u hu; simp [nums] at hu; obtain ⟨y, _, rfl⟩ := hu; rfl
      by_cases hroom : xs.length + 1 ≤ cap
      · refine (Any2.slices_Insert_int_shift insInt g 0 xs.length cap 0 vb 0 1 1 (nums .i64 xs) [.int .i64 x] w h0 (by omega) hroom (by unfold maxLen at hcm; omega) (fun e => hne (by subst e; rfl)) (nums_length _ _) rfl hcells
          (fun j hj => ?_) (fun j hj => blk_free hh _) hvs h1c h1v 3 3 1 cap (by simp [World.shape?, hv]) (by simp [World.shape?, hh, hsz]) (by omega) (blk_free hv _) (blk_free hv _)).mono ?_
        · have : j < cur'.size := by omega
          rw [blk_cell hh (0 + j) cur'[j] (by simp [this])]; rfl
        · rintro e w' ⟨rfl, rfl⟩
          have hdrop : List.drop 0 (nums .i64 xs) = nums .i64 xs := rfl
          rw [hdrop]
          obtain ⟨c1, k1, k2, k3⟩ := setCells_blk (w := w.drew) (nums .i64 xs) (0 + (0 + 1)) (show w.drew.heap[g]? = _ from hh) (by rw [nums_length]; omega)
          obtain ⟨c2, q1, q2, q3⟩ := setCells_blk (w := w.drew.setCells g (0 + (0 + 1)) (nums .i64 xs)) [.int .i64 x] (0 + 0) k1 (by show 0 + 0 + 1 ≤ _; omega)
          refine ⟨_, rfl, ?_, (((Chg.refl (fun k => (Value.slice (some ⟨g, 0, none⟩) xs.length cap).ownBlock = some k) w).drew).setCells (.inl rfl) _ _).setCells (.inl rfl) _ _⟩
          refine own_of_blk q1 hbg (by simpa using hroom) hcm (by rw [q2, k2, hsz]) ?_
          intro j hj
          have hj' : j < xs.length + 1 := by simpa using hj
          rw [q3]
          cases j with
          | zero => rw [if_pos (by simp)]; rfl
          | succ j =>
            rw [if_neg (by simp), k3, if_pos (by rw [nums_length]; omega), show j + 1 - (0 + (0 + 1)) = j by omega, List.getD_cons_succ, List.getD_eq_getElem?_getD, List.getElem?_eq_getElem (show j < xs.length by omega)]
            simp [nums, show j < xs.length by omega]
      · refine (Any2.slices_Insert_int_grow insInt g 0 xs.length cap 0 vb 0 1 1 (nums .i64 xs) [.int .i64 x] w h0 (by omega) hnc (by omega) (by omega) (nums_length _ _) rfl hcells hvs h1c h1v).mono ?_
        rintro e w' ⟨rfl, rfl⟩
        have hge := grownCap_ge w (xs.length + 1) cap (insInt_ren.t 3)
        have hle := grownCap_le_maxLen w (xs.length + 1) cap (insInt_ren.t 3) (by unfold maxLen; omega)
        generalize grownCap w (xs.length + 1) cap (insInt_ren.t 3) = G at hge hle ⊢
        have hdrop : List.drop 0 (nums .i64 xs) = nums .i64 xs := rfl
        rw [hdrop]
        generalize hcur : ((List.take 0 (nums .i64 xs)).toArray ++ Builtin.zeroCells (Value.int .i64 0).cells (xs.length + 1 - 0) ++ Builtin.zeroCells (Value.int .i64 0).cells (G - (xs.length + 1))) = cur0
        have hsz0 : cur0.size = G := by
          rw [← hcur, Array.size_append, Array.size_append, size_zeroCells, size_zeroCells]
          show 0 + (xs.length + 1 - 0) * 1 + (G - (xs.length + 1)) * 1 = G
          omega
        have hnew : (w.alloc (.cells cur0 (insInt_ren.t 3))).heap[w.heap.size]? = some (.cells cur0 3 (0, 0)) := heap_alloc_new w _
        obtain ⟨c1, k1, k2, k3⟩ := setCells_blk (w := (w.alloc (.cells cur0 (insInt_ren.t 3))).drew) [.int .i64 x] 0 hnew (by simp; omega)
        obtain ⟨c2, q1, q2, q3⟩ := setCells_blk (w := ((w.alloc (.cells cur0 (insInt_ren.t 3))).drew.setCells w.heap.size 0 [.int .i64 x]).drew) (nums .i64 xs) (0 + 1) k1 (by rw [nums_length]; omega)
        refine ⟨_, rfl, ?_, ((((Chg.refl (fun k => (Value.slice (some ⟨g, 0, none⟩) xs.length cap).ownBlock = some k) w).alloc _).drew).setCells (.inr (Nat.le_refl _)) _ _).drew.setCells (.inr (Nat.le_refl _)) _ _⟩
        refine own_of_blk q1 hbase (by simpa using hge) hle (by omega) ?_
        intro j hj
        have hj' : j < xs.length + 1 := by simpa using hj
        rw [q3]
        cases j with
        | zero => rw [if_neg (by simp), k3, if_pos (by simp)]; rfl
        | succ j =>
          rw [if_pos (by rw [nums_length]; omega), show j + 1 - (0 + 1) = j by omega, List.getD_cons_succ, List.getD_eq_getElem?_getD, List.getElem?_eq_getElem (show j < xs.length by omega)]
          simp [nums, show j < xs.length by omega]
end Go.Proofs.Ytgnhlaonckognaa
