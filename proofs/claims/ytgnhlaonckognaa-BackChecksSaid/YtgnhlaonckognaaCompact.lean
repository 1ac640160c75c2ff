/- slices.CompactFunc at []api.Partial walked: runs of equal elements become one. Conditions: a list of the call's own, cells of at most a million. -/
import Derived.Test.YtgnhlaonckognaaSort
import Derived.Lib.SlicesCompact
import Derived.Lib.SliceRun
import Derived.Shelf.SlSortCmp.QuietGrown
namespace Go.Proofs.Ytgnhlaonckognaa
open Go.RowKit Go.Proofs.YtgnhlaonckognaaW.PrintWords Go.Sort
set_option linter.unusedVariables false
set_option linter.unusedSimpArgs false

/-- The row's block holds the elements dk. -/
structure RowEl (w : World) (base b cap : Nat) (wr : World) (dk : Array (El w base b)) : Prop where
  blk : ∃ cur : Array Value, wr.heap[b]? = some (.cells cur 36 (0, 0)) ∧ cur.size = cap * 3 ∧ ∀ j e, dk[j]? = some e → cur[j * 3]? = some (.int .i64 e.val.state) ∧ cur[j * 3 + 1]? = some (.int .i64 e.val.head) ∧ cur[j * 3 + 2]? = some e.v2
  le : dk.size ≤ cap
  old : b < w.heap.size
  chg : Chg (fun k => some b = some k) w wr
namespace RowEl
variable {w wr : World} {base b cap : Nat} {dk : Array (El w base b)}
theorem cell (h : RowEl w base b cap wr dk) (j : Nat) (hj : j < dk.size) : wr.cell? ⟨b, j * 3, none⟩ = some (.int .i64 (dk[j]!).val.state) ∧ wr.cell? ⟨b, j * 3 + 1, none⟩ = some (.int .i64 (dk[j]!).val.head) ∧ wr.cell? ⟨b, j * 3 + 2, none⟩ = some (dk[j]!).v2 := by
  obtain ⟨cur, h1, h2, h3⟩ := h.blk
  obtain ⟨a0, a1, a2⟩ := h3 j dk[j]! (by rw [getElem!_pos dk j hj, Array.getElem?_eq_getElem hj])
  exact ⟨blk_cell h1 _ _ a0, blk_cell h1 _ _ a1, blk_cell h1 _ _ a2⟩
theorem free (h : RowEl w base b cap wr dk) (i : Nat) : wr.frozen? ⟨b, i, none⟩ = false := by
  obtain ⟨cur, h1, _⟩ := h.blk
  exact blk_free h1 i
theorem gr {w2 : World} (h : RowEl w base b cap wr dk) (hg : Gr wr w2) : RowEl w base b cap w2 dk := by
  obtain ⟨cur, h1, h2, h3⟩ := h.blk
  exact ⟨⟨cur, hg.new.blk h1, h2, h3⟩, h.le, h.old, h.chg.trans (Chg.of_below hg.new.below _)⟩
theorem put (h : RowEl w base b cap wr dk) (k : Nat) (hk : k < dk.size) (x : El w base b) :
    RowEl w base b cap (((wr.setCell ⟨b, k * 3, none⟩ (.int .i64 x.val.state)).setCell ⟨b, k * 3 + 1, none⟩ (.int .i64 x.val.head)).setCell ⟨b, k * 3 + 2, none⟩ x.v2) (dk.setIfInBounds k x) := by
  obtain ⟨cur, h1, h2, h3⟩ := h.blk
  have hle := h.le
  refine ⟨⟨_, blk_set (blk_set (blk_set h1 _ _) _ _) _ _, by simp [h2], fun j e hj => ?_⟩, by simpa using hle, h.old, ((h.chg.setCell (.inl rfl) _).setCell (.inl rfl) _).setCell (.inl rfl) _⟩
  rw [Array.getElem?_setIfInBounds] at hj
  by_cases e' : k = j
  · subst e'
    rw [if_pos rfl, if_pos hk] at hj
    have : x = e := by injection hj
    subst this
    have : k * 3 + 3 ≤ cap * 3 := by omega
    refine ⟨?_, ?_, ?_⟩ <;> simp [Array.getElem?_setIfInBounds] <;> omega
  · rw [if_neg e'] at hj
    obtain ⟨a0, a1, a2⟩ := h3 j e hj
    refine ⟨?_, ?_, ?_⟩ <;> simp only [Array.getElem?_setIfInBounds]
    · rw [if_neg (by omega), if_neg (by omega), if_neg (by omega)]; exact a0
    · rw [if_neg (by omega), if_neg (by omega), if_neg (by omega)]; exact a1
    · rw [if_neg (by omega), if_neg (by omega), if_neg (by omega)]; exact a2
theorem head (h : RowEl w base b cap wr dk) (m : Nat) : RowEl w base b cap wr (dk.extract 0 m) := by
  obtain ⟨cur, h1, h2, h3⟩ := h.blk
  have hle := h.le
  refine ⟨⟨cur, h1, h2, fun j e hj => h3 j e ?_⟩, by simp; omega, h.old, h.chg⟩
  rw [Array.getElem?_extract] at hj
  split at hj
  · simpa using hj
  · simp at hj
/-- Stores behind the elements. -/
theorem behind (h : RowEl w base b cap wr dk) (o : Nat) (ho : dk.size * 3 ≤ o) (vs : List Value) (hv : o + vs.length ≤ cap * 3) : RowEl w base b cap (wr.setCells b o vs) dk := by
  obtain ⟨cur, h1, h2, h3⟩ := h.blk
  obtain ⟨cur', k1, k2, k3⟩ := setCells_blk vs o h1 (by omega)
  refine ⟨⟨cur', k1, by omega, fun j e hj => ?_⟩, h.le, h.old, h.chg.setCells (.inl rfl) vs o⟩
  have hjs : j < dk.size := (Array.getElem?_eq_some_iff.1 hj).1
  obtain ⟨a0, a1, a2⟩ := h3 j e hj
  rw [k3, k3, k3, if_neg (by omega), if_neg (by omega), if_neg (by omega)]
  exact ⟨a0, a1, a2⟩
theorem pts (h : RowEl w base b cap wr dk) (hb : base ≤ b) (hm : cap ≤ maxLen) : PtsM wr base (.slice (some ⟨b, 0, none⟩) dk.size cap) (dk.toList.map El.val) := by
  obtain ⟨cur, h1, h2, h3⟩ := h.blk
  have hle := h.le
  refine ⟨fun _ _ => trivial, dk.toList.flatMap El.enc, ⟨?_, .inr ⟨b, cap, cur, ?_, hb, h1, ?_, hm, h2, ?_⟩⟩, ?_, ?_⟩
  · rw [flat_len, List.length_map]; rfl
  · rw [List.length_map, Array.length_toList]
  · rw [List.length_map, Array.length_toList]; exact hle
  · rw [List.length_map, Array.length_toList]
    have hlc : dk.size * 3 ≤ cap * 3 := Nat.mul_le_mul_right _ hle
    refine List.ext_getElem? fun j => ?_
    rw [List.getElem?_take]
    show (if j < dk.size * 3 then _ else _) = _
    by_cases hj : j < dk.size * 3
    · rw [if_pos hj]
      have hq : j / 3 < dk.size := by omega
      obtain ⟨a0, a1, a2⟩ := h3 (j / 3) dk[j / 3] (Array.getElem?_eq_getElem hq)
      have hd := flat_drop dk.toList (j / 3) dk[j / 3] (by simp [hq])
      have hc' : ∀ c, c < 3 → (dk.toList.flatMap El.enc)[j / 3 * 3 + c]? = dk[j / 3].enc[c]? := fun c hc3 => by
        rw [← hd, List.getElem?_take, if_pos hc3, List.getElem?_drop]
      rw [Array.getElem?_toList]
      have hm3 : j = j / 3 * 3 + 0 ∨ j = j / 3 * 3 + 1 ∨ j = j / 3 * 3 + 2 := by omega
      generalize dk[j / 3] = x at *
      generalize j / 3 * 3 = t at *
      rcases hm3 with e | e | e
      · rw [e, hc' 0 (by omega)]; exact a0
      · rw [e, hc' 1 (by omega)]; exact a1
      · rw [e, hc' 2 (by omega)]; exact a2
    · rw [if_neg hj, List.getElem?_eq_none (by rw [flat_len]; simpa using hj)]
  · rw [flat_len, List.length_map]; rfl
  · intro j p hj
    rw [List.getElem?_map, Option.map_eq_some_iff] at hj
    obtain ⟨e1, h1, rfl⟩ := hj
    show kPt.M _ _ _ _ (List.take 3 (List.drop (j * 3) _))
    rw [flat_drop _ _ _ h1]
    exact kPt_M_mk (Kd.R_mono (Kd.R_step e1.row (fun k hk hlt => h.chg.block k hlt (fun e => hk (by injection e with e; exact e.symm)))) (fun k hk => ⟨trivial, fun h' => hk (by injection h')⟩))
end RowEl
/-- A list of the call's own: its block and elements. -/
theorem PtsM.els {w : World} {base : Nat} {v : Value} {l : List Pt} (h : PtsM w base v l) (hl : ∀ p ∈ l, p.cells.length ≤ 1000000) : (v = .slice none 0 0 ∧ l = []) ∨
    ∃ b cap, ∃ es : Array (El w base b), v = .slice (some ⟨b, 0, none⟩) l.length cap ∧ base ≤ b ∧ cap ≤ maxLen ∧ es.toList.map El.val = l ∧ RowEl w base b cap w es := by
  obtain ⟨_, inner, ho, hr⟩ := h
  obtain ⟨hlen, ho2⟩ := ho
  rcases ho2 with ⟨rfl, h0⟩ | ⟨g, cap, cur, rfl, hb, hblk, hc, hm, hs, ht⟩
  · exact .inl ⟨rfl, List.eq_nil_of_length_eq_zero h0⟩
  · have hok : ∀ k, (True ∧ some k ≠ (Value.slice (some ⟨g, 0, none⟩) l.length cap).ownBlock) → k ≠ g := fun k hk e => hk.2 (by rw [e]; rfl)
    obtain ⟨es, he, hi⟩ := reps_els (b := g) hok l inner hr hl
    have hesl : es.length = l.length := by rw [← he, List.length_map]
    refine .inr ⟨g, cap, es.toArray, rfl, hb, hm, he, ⟨cur, hblk, hs, fun j e hj => ?_⟩, by simpa [hesl] using hc, (Array.getElem?_eq_some_iff.1 hblk).1, Chg.refl _ _⟩
    have hj' : es[j]? = some e := by simpa using hj
    have hjl : j < es.length := (List.getElem?_eq_some_iff.1 hj').1
    have hd := flat_drop es j e hj'
    rw [← hi, ← ht] at hd
    have hc' : ∀ c, c < 3 → cur[j * 3 + c]? = e.enc[c]? := fun c hc3 => by
      rw [← hd, List.getElem?_take, if_pos hc3, List.getElem?_drop, List.getElem?_take, show kPt.sz = 3 from rfl]
      rw [if_pos (show j * 3 + c < l.length * 3 by omega), Array.getElem?_toList]
    exact ⟨hc' 0 (by omega), hc' 1 (by omega), hc' 2 (by omega)⟩

theorem el_eq {w wr : World} {base b : Nat} (hw : ∀ k, k < w.heap.size → k ≠ b → wr.heap[k]? = w.heap[k]?) (x y : El w base b) :
    Calls Try.prog 54 #[.agg #[.int .i64 x.val.state, .int .i64 x.val.head, x.v2], .agg #[.int .i64 y.val.state, .int .i64 y.val.head, y.v2]] wr fun e w' => e = .returned (.bool (decide (x.val = y.val))) ∧ ∃ q os, w' = grow (wr.drewN q) os := by
  have mv : ∀ z : El w base b, (Kd.int .i64).R 3 wr base (fun k => k ≠ b) z.v2 z.val.cells := fun z => Kd.R_step z.row (fun k hk hlt => hw k hlt hk)
  obtain ⟨A, c, e1, hc, h1⟩ := Kd.R_reads (mv x)
  obtain ⟨B, d, e2, hd, h2⟩ := Kd.R_reads (mv y)
  rw [e1, e2]
  exact (call_eq wr x.val y.val A B c d h1 hc h2 hd (by have := x.len; omega)).mono fun e w' ⟨he, hg⟩ => ⟨he, hg.to⟩
end Go.Proofs.Ytgnhlaonckognaa
