/- ref11.Add in memory: lists that are read. Conditions: rising, at most 10^9 elements, cells shorter than 2^47. -/
import Derived.Test.YtgnhlaonckognaaAdd
import Derived.Test.YtgnhlaonckognaaPrValid
namespace Go.Proofs.Ytgnhlaonckognaa
open Go.RowKit Go.Proofs.YtgnhlaonckognaaW.PrintWords Go.Proofs.YtgnhlaonckognaaW.PrintMore Go.Proofs.Ytgnhlaonckognaa.PBackLevels
set_option linter.unusedVariables false
set_option linter.unusedSimpArgs false

/-- A list of partial configurations that is read. -/
def PtsV (w : World) (v : Value) (l : List Pt) : Prop := ∃ A c, v = .slice A l.length c ∧ l.length ≤ c ∧ Kd.C kPt w A l.length l
theorem PtsV.new {w w1 : World} {v : Value} {l : List Pt} (h : PtsV w v l) (hn : New w w1) : PtsV w1 v l := by
  obtain ⟨A, c, h1, h2, h3⟩ := h
  exact ⟨A, c, h1, h2, Kd.C_below h3 hn.below⟩
theorem heap_k36 : Kd.Heap k36 := Kd.heap_iso _ (Kd.heap_pair (Kd.heap_int _) (Kd.heap_pair (Kd.heap_int _) (Kd.heap_slice _ (Kd.heap_int _))))
theorem kPt_S {w : World} {x : Pt} {cs : List Value} (h : kPt.K w x cs) : k36.K w (toP x) cs := h
theorem kS_Pt {w : World} {x : S36} {cs : List Value} (h : k36.K w x cs) : kPt.K w (⟨x.f0, x.f1, x.f2⟩ : Pt) cs := h
theorem call_Add (w : World) (v : Value) (l : List Pt) (p : Pt) (A2 : Option Addr) (c2 : Nat) (h : PtsV w v l) (hC : (Kd.int .i64).C w A2 p.cells.length p.cells) (hc2 : p.cells.length ≤ c2) (hr : Rising l) (hn : (l.length : Int) ≤ 1000000000) (hl : ∀ q ∈ l, (q.cells.length : Int) ≤ 140737488355328) (hp : (p.cells.length : Int) ≤ 140737488355328) :
    Calls Try.prog 24 #[v, .agg #[.int .i64 p.state, .int .i64 p.head, .slice A2 p.cells.length c2]] w fun e w' => ∃ v', e = .returned v' ∧ PtsV w' v' (addP l p) ∧ New w w' := by
  obtain ⟨A, c, rfl, hc, hA⟩ := h
  obtain ⟨k, hk⟩ := (add_f l p hr hn hl hp).rounds
  have h1 : Kd.C k36 w A (l.map toP).length (l.map toP) := by rw [List.length_map]; exact C_map (f := toP) rfl (fun _ _ h => kPt_S h) hA
  have hc' : (l.map toP).length ≤ c := by rw [List.length_map]; exact hc
  have := standstillref11_Add.calls k (fun k => k < w.heap.size) A c (l.map toP) p.state p.head (fun k => k < w.heap.size) A2 c2 p.cells ((addP l p).map toP) w (Kd.V_mk hc' (Kd.C_F heap_k36 h1)) (Kd.V_mk hc2 (Kd.C_F (Kd.heap_int _) hC)) hk
  rw [List.length_map] at this
  refine this.mono fun e w' ⟨v0, he, hV, hb⟩ => ⟨v0, he, ?_, ⟨hb⟩⟩
  obtain ⟨A', c', hv, hc3, hF⟩ := hV
  have hC2 := C_map (d' := kPt) (f := fun x : S36 => (⟨x.f0, x.f1, x.f2⟩ : Pt)) rfl (fun _ _ h => kS_Pt h) (Kd.F_now hF)
  have e2 : ((addP l p).map toP).map (fun x : S36 => (⟨x.f0, x.f1, x.f2⟩ : Pt)) = addP l p := by
    rw [List.map_map]; exact List.map_id _
  rw [e2] at hC2
  rw [List.length_map] at hv hc3 hC2
  exact ⟨A', c', hv, hc3, hC2⟩
end Go.Proofs.Ytgnhlaonckognaa
