/- slices.SortFunc at []api.Partial walked, by the shelf: a permutation, rising weakly. Conditions: a list of the call's own, cells of at most a million. -/
import Derived.Test.YtgnhlaonckognaaBackD
import Derived.Test.YtgnhlaonckognaaBackC
import Derived.Test.YtgnhlaonckognaaLaySort
import Derived.Shelf.SlSortCmp.NoneTotal

namespace Go.Proofs.Ytgnhlaonckognaa
open Go.RowKit Go.Proofs.YtgnhlaonckognaaW.PrintWords Go.Sort
set_option linter.unusedVariables false
set_option linter.unusedSimpArgs false

theorem kPt_M {w : World} {base : Nat} {ok : Nat → Prop} {p : Pt} {cs : List Value} (h : kPt.M w base ok p cs) : ∃ v2, cs = [.int .i64 p.state, .int .i64 p.head, v2] ∧ (Kd.int .i64).R 3 w base ok v2 p.cells := by
  obtain ⟨c0, c1, rfl, h0, c2, c3, rfl, h2, v2, rfl, h3⟩ := h
  have e0 : c0 = [.int .i64 p.state] := h0
  have e2 : c2 = [.int .i64 p.head] := h2
  subst e0; subst e2
  exact ⟨v2, rfl, h3⟩
theorem kPt_M_mk {w : World} {base : Nat} {ok : Nat → Prop} {p : Pt} {v2 : Value} (h : (Kd.int .i64).R 3 w base ok v2 p.cells) : kPt.M w base ok p [.int .i64 p.state, .int .i64 p.head, v2] :=
  ⟨[.int .i64 p.state], [.int .i64 p.head, v2], rfl, rfl, ⟨[.int .i64 p.head], [v2], rfl, rfl, ⟨v2, rfl, h⟩⟩⟩

/-- An element of the row: what its cells say. -/
structure El (w : World) (base b : Nat) where
  val : Pt
  v2 : Value
  row : (Kd.int .i64).R 3 w base (fun k => k ≠ b) v2 val.cells
  len : val.cells.length ≤ 1000000
instance (w : World) (base b : Nat) : Inhabited (El w base b) := ⟨⟨⟨0, 0, []⟩, .slice none 0 0, Kd.R_nil _ _ _ _ _, by simp⟩⟩
def El.enc {w : World} {base b : Nat} (e : El w base b) : List Value := [.int .i64 e.val.state, .int .i64 e.val.head, e.v2]
theorem El.enc_length {w : World} {base b : Nat} (e : El w base b) : e.enc.length = 3 := rfl
theorem El.enc_one {w : World} {base b : Nat} (e : El w base b) : ∀ v ∈ e.enc, v.oneCell' = true := by
  obtain ⟨A, c, he⟩ := Kd.R_slice e.row
  intro v hv
  rw [El.enc, he] at hv
  simp at hv
  rcases hv with rfl | rfl | rfl <;> rfl

theorem reps_els {w : World} {base b : Nat} {ok : Nat → Prop} (hok : ∀ k, ok k → k ≠ b) : ∀ (l : List Pt) (inner : List Value), Reps (kPt.M w base ok) 3 l inner → (∀ p ∈ l, p.cells.length ≤ 1000000) → ∃ es : List (El w base b), es.map El.val = l ∧ inner = es.flatMap El.enc
  | [], inner, h, _ => ⟨[], rfl, List.eq_nil_of_length_eq_zero (by simpa using h.1)⟩
  | p :: l, inner, h, hl => by
    have hlen := h.1
    simp only [List.length_cons] at hlen
    obtain ⟨v2, h2, h3⟩ := kPt_M (h.2 0 p rfl)
    have hr : Reps (kPt.M w base ok) 3 l (inner.drop 3) := by
      refine ⟨by rw [List.length_drop]; omega, fun j q hq => ?_⟩
      have := h.2 (j + 1) q (by simpa using hq)
      rw [List.drop_drop]
      rwa [show 3 + j * 3 = (j + 1) * 3 by omega]
    obtain ⟨es, h4, h5⟩ := reps_els hok l _ hr (fun q hq => hl q (List.mem_cons_of_mem _ hq))
    refine ⟨⟨p, v2, Kd.R_mono h3 hok, hl p (by simp)⟩ :: es, by rw [List.map_cons, h4], ?_⟩
    rw [List.flatMap_cons, ← h5]
    show inner = [.int .i64 p.state, .int .i64 p.head, v2] ++ _
    rw [← h2, Nat.zero_mul, List.drop_zero, List.take_append_drop]
theorem flat_len {w : World} {base b : Nat} : ∀ (es : List (El w base b)), (es.flatMap El.enc).length = es.length * 3
  | [] => rfl
  | e :: es => by rw [List.flatMap_cons, List.length_append, flat_len es, El.enc_length, List.length_cons]; omega
theorem flat_drop {w : World} {base b : Nat} : ∀ (es : List (El w base b)) (j : Nat) (e : El w base b), es[j]? = some e → ((es.flatMap El.enc).drop (j * 3)).take 3 = e.enc
  | e :: es, 0, e', h => by
    have : e = e' := by simpa using h
    subst this
    rfl
  | e :: es, j + 1, e', h => by
    rw [List.flatMap_cons, show (j + 1) * 3 = e.enc.length + j * 3 by rw [El.enc_length]; omega, ← List.drop_drop, List.drop_left]
    exact flat_drop es j e' (by simpa using h)
theorem flat_get {w : World} {base b : Nat} : ∀ (es : List (El w base b)) (t : Nat), t < es.length * 3 → (es.flatMap El.enc)[t]! = (es[t / 3]!).enc[t % 3]!
  | [], t, h => absurd h (by simp)
  | e :: es, t, h => by
    rw [List.flatMap_cons]
    rcases Nat.lt_or_ge t 3 with h3 | h3
    · rw [Nat.div_eq_of_lt h3, Nat.mod_eq_of_lt h3]
      show (e.enc ++ _)[t]! = e.enc[t]!
      simp only [List.getElem!_eq_getElem?_getD, List.getElem?_append_left (show t < e.enc.length from h3)]
    · obtain ⟨u, rfl⟩ : ∃ u, t = u + 3 := ⟨t - 3, by omega⟩
      have h1 := flat_get es u (by simp at h; omega)
      rw [show (u + 3) / 3 = u / 3 + 1 by omega, show (u + 3) % 3 = u % 3 by omega]
      simp only [List.getElem!_eq_getElem?_getD, List.getElem?_cons_succ, List.getElem?_append_right (show e.enc.length ≤ u + 3 from Nat.le_add_left _ _), El.enc_length, Nat.add_sub_cancel] at h1 ⊢
      exact h1
theorem flatK_els {w : World} {base b : Nat} (es : List (El w base b)) : flatK El.enc 3 es.toArray = (es.flatMap El.enc).toArray := by
  refine ext_get! (by rw [size_flatK]; simp only [List.size_toArray, flat_len]) fun t ht => ?_
  have ht' : t < es.length * 3 := by simpa using ht
  rw [get_flatK _ _ _ _ (by simpa using ht')]
  have := flat_get es t ht'
  simpa using this.symm

theorem swo_ltP : SWO ltP := ⟨ltP_irrefl, fun _ _ _ => ltP_trans, fun _ _ _ => ltP_ntrans⟩

theorem sort_heap {w : World} {base b : Nat} (es : Array (El w base b)) (m : Nat) (os : Array Obj) (k : Nat) (hk : k < w.heap.size) (hne : k ≠ b) : (sortWorldK El.enc 3 w b 0 m es os).heap[k]? = w.heap[k]? := by
  unfold sortWorldK
  rw [heap_grow_old _ _ (by rw [size_putRowK]; exact hk)]
  unfold putRowK putRow mapBlock
  simp only [Array.getElem?_modify, if_neg (fun h : b = k => hne h.symm)]
  rfl
theorem sort_blk {w : World} {base b : Nat} {cur : Array Value} {t : TypeId} {fr : Nat × Nat} (h : w.heap[b]? = some (.cells cur t fr)) (es : Array (El w base b)) (m : Nat) (os : Array Obj) :
    (sortWorldK El.enc 3 w b 0 m es os).heap[b]? = some (.cells (putCells id 0 (flatK El.enc 3 es) cur) t fr) := by
  have hk : b < w.heap.size := (Array.getElem?_eq_some_iff.1 h).1
  unfold sortWorldK
  rw [heap_grow_old _ _ (by rw [size_putRowK]; exact hk)]
  unfold putRowK putRow mapBlock
  simp only [Array.getElem?_modify, heap_ahead, h, if_true, Option.map_some, onCells]
theorem sort_chg {w : World} {base b : Nat} (es : Array (El w base b)) (m : Nat) (os : Array Obj) : Chg (fun k => some b = some k) w (sortWorldK El.enc 3 w b 0 m es os) :=
  ⟨rfl, rfl, rfl, size_sortWorldK_c _ _ _ _ _ _ _ _, fun k hk hne => sort_heap es m os k hk (fun e => hne (by rw [e]))⟩

theorem cmp_lays (w : World) (base b n : Nat) : CmpLays Try.prog 52 #[] (El.enc (w := w) (base := base) (b := b)) 3 (fun x y => cmpP x.val y.val) b 0 n w := by
  intro m os dk hs x y
  have mv : ∀ z : El w base b, (Kd.int .i64).R 3 (sortWorldK El.enc 3 w b 0 m dk os) base (fun k => k ≠ b) z.v2 z.val.cells := fun z => Kd.R_step z.row (fun k hk hlt => sort_heap dk m os k hlt hk)
  obtain ⟨A, c, e1, hc, h1⟩ := Kd.R_reads (mv x)
  obtain ⟨B, d, e2, hd, h2⟩ := Kd.R_reads (mv y)
  have := call_compare_gr (sortWorldK El.enc 3 w b 0 m dk os) x.val y.val A B c d h1 hc h2 hd (by have := x.len; omega)
  unfold El.enc at *
  rw [e1, e2]
  exact this.mono fun e w' ⟨he, hg⟩ => ⟨he, hg.to⟩

set_option maxHeartbeats 1000000 in
theorem call_Sort (w : World) (base : Nat) (v : Value) (l : List Pt) (h : PtsM w base v l) (hl : ∀ p ∈ l, p.cells.length ≤ 1000000) (hn : l.length ≤ 1000000000) :
    Calls Try.prog 51 #[v, .func (.func 52) #[] #[]] w fun e w' => e = .returned (.tuple #[]) ∧
      ∃ l', PtsM w' base v l' ∧ l'.Perm l ∧ l'.Pairwise (fun p q => ltP q p = false) ∧ Chg (fun k => v.ownBlock = some k) w w' := by
  have hnil : ∀ W, Calls Try.prog 51 #[.slice none 0 0, .func (.func 52) #[] #[]] W fun e w' => e = .returned (.tuple #[]) ∧ w' = W := fun W => AnyF.slices_SortFunc_none sortPt none 0 _ W
  obtain ⟨_, inner, ho, hr⟩ := h
  obtain ⟨hlen, ho2⟩ := ho
  rcases ho2 with ⟨rfl, h0⟩ | ⟨g, cap, cur, rfl, hb, hblk, hc, hm, hs, ht⟩
  · have : l = [] := List.eq_nil_of_length_eq_zero h0
    subst this
    exact ((hnil w).mono fun e w' ⟨he, hw⟩ => by
      subst hw
      exact ⟨he, [], PtsM.nil _ _, List.Perm.refl _, List.Pairwise.nil, Chg.refl _ _⟩)
  · have hok : ∀ k, (True ∧ some k ≠ (Value.slice (some ⟨g, 0, none⟩) l.length cap).ownBlock) → k ≠ g := fun k hk e => hk.2 (by rw [e]; rfl)
    obtain ⟨es, he, hi⟩ := reps_els (b := g) hok l inner hr hl
    have hesl : es.length = l.length := by rw [← he, List.length_map]
    have hH : HoldsK El.enc 3 w g 0 es.toArray := by
      intro j hj
      rw [size_flatK, List.size_toArray] at hj
      rw [flatK_els, ← hi, ← ht]
      have hj2 : j < cur.size := by
        have : l.length * 3 ≤ cap * 3 := Nat.mul_le_mul_right _ hc
        have hs' : cur.size = cap * 3 := hs
        omega
      refine ⟨?_, by simp [World.frozen?, hblk]⟩
      simp only [World.cell?, hblk, Nat.zero_add]
      have hj3 : j < l.length * kPt.sz := by rw [← hesl]; exact hj
      rw [Array.getElem?_eq_getElem hj2]
      simp [hj2, hj3, List.getElem?_take]
    have hcon := AnyQ.slices_SortFunc sortPt 3 Try.isAgg36 Try.sizeOf36 (El.enc (w := w) (base := base) (b := g)) (fun x => El.enc_length x) (fun x => El.enc_one x) (fun x y => cmpP x.val y.val) ⟨fun x => ltP_irrefl _, fun x y z => ltP_trans, fun x y z => ltP_ntrans⟩ 52 #[] g 0 cap es.toArray w
      (enters_of Try.func52 (by kernel_rfl) rfl) (cmp_lays w base g _) hH (Array.getElem?_eq_some_iff.1 hblk).1 (by simp; omega)
    rw [List.size_toArray, hesl] at hcon
    refine hcon.mono ?_
    rintro e w' ⟨he1, d', n, os, hp, hsd, rfl⟩
    have hd : d'.size = l.length := by rw [hp.1, List.size_toArray, hesl]
    refine ⟨he1, d'.toList.map El.val, ?_, ?_, ?_, sort_chg _ _ _⟩
    · have hd' : d'.toList.length = l.length := by simpa using hd
      refine ⟨fun _ _ => trivial, d'.toList.flatMap El.enc, ⟨?_, .inr ⟨g, cap, _, ?_, hb, sort_blk hblk d' n os, ?_, hm, ?_, ?_⟩⟩, ?_, ?_⟩
      · rw [flat_len, List.length_map]; rfl
      · rw [List.length_map, hd']
      · rw [List.length_map, hd']; exact hc
      · unfold putCells; simpa using hs
      · rw [List.length_map, hd']
        have hsz : (flatK El.enc 3 d').size = l.length * 3 := by rw [size_flatK, hd]
        have hfl : flatK El.enc 3 d' = (d'.toList.flatMap El.enc).toArray := by
          have := flatK_els d'.toList
          rwa [Array.toArray_toList] at this
        have hs' : cur.size = cap * 3 := hs
        have hlc : l.length * 3 ≤ cap * 3 := Nat.mul_le_mul_right _ hc
        refine List.ext_getElem? fun j => ?_
        rw [List.getElem?_take]
        show (if j < l.length * 3 then _ else _) = _
        by_cases hj : j < l.length * 3
        · rw [if_pos hj]
          unfold putCells
          rw [Array.getElem?_toList, Array.getElem?_mapIdx, Array.getElem?_eq_getElem (show j < cur.size by omega), Option.map_some, if_pos ⟨Nat.zero_le _, by omega⟩, Nat.sub_zero, hfl]
          have hj2 : j < (d'.toList.flatMap El.enc).length := by rw [flat_len, hd']; exact hj
          rw [List.getElem?_eq_getElem hj2]
          simp only [id, List.getElem!_toArray]
          rw [getElem!_pos (d'.toList.flatMap El.enc) j hj2]
        · rw [if_neg hj, List.getElem?_eq_none (by rw [flat_len, hd']; omega)]
      · rw [flat_len, List.length_map]; rfl
      · intro j p hj
        rw [List.getElem?_map, Option.map_eq_some_iff] at hj
        obtain ⟨e1, h1, rfl⟩ := hj
        show kPt.M _ _ _ _ (List.take 3 (List.drop (j * 3) _))
        rw [flat_drop _ _ _ h1]
        exact kPt_M_mk (Kd.R_mono (Kd.R_step e1.row (fun k hk hlt => sort_heap d' n os k hlt hk)) (fun k hk => ⟨trivial, fun h' => hk (by injection h')⟩))
    · rw [← he]
      refine List.Perm.map _ ?_
      have := hp.2.2
      rw [show d'.extract 0 l.length = d' by rw [Array.extract_eq_self_of_le]; rw [hd]; exact Nat.le_refl _, show es.toArray.extract 0 l.length = es.toArray by rw [Array.extract_eq_self_of_le]; rw [List.size_toArray, hesl]; exact Nat.le_refl _] at this
      simpa using this
    · rw [List.pairwise_map, List.pairwise_iff_getElem]
      intro i j hi hj hij
      have := hsd i j (Nat.zero_le _) hij (by rw [← hd]; simpa using hj)
      rw [getElem!_pos d' j (by simpa using hj), getElem!_pos d' i (by simpa using hi)] at this
      simpa only [Array.getElem_toList] using (show ltP d'[j].val d'[i].val = false from this)
end Go.Proofs.Ytgnhlaonckognaa
