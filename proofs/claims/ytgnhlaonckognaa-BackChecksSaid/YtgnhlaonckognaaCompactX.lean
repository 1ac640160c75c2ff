/- slices.CompactFunc at []api.Partial walked: runs of equal elements become one. Conditions: a list of the call's own, cells of at most a million. -/
import Derived.Test.YtgnhlaonckognaaCompactW
namespace Go.Proofs.Ytgnhlaonckognaa
open Go.RowKit Go.Proofs.YtgnhlaonckognaaW.PrintWords Go.Sort
set_option linter.unusedVariables false
set_option linter.unusedSimpArgs false

theorem HIGH {w : World} {base b : Nat} {l : List Pt} {m kk : Nat} (dk : Array (El w base b)) (k0 : Nat) (h : Lib.CompInv l.toArray m kk (dk.map El.val)) (j : Nat) (hj : j < dk.size) (hk : kk ≤ j) : (dk[j]!).val = l.toArray[j]! := by
  have := h.high j hk
  rw [← this, getElem!_pos (dk.map El.val) j (by simpa using hj), getElem!_pos dk j hj, Array.getElem_map]

set_option maxHeartbeats 4000000 in
set_option maxRecDepth 100000 in
theorem call_Compact (w : World) (base : Nat) (v : Value) (l : List Pt) (h : PtsM w base v l) (hl : ∀ p ∈ l, p.cells.length ≤ 1000000) (hn : l.length ≤ 1000000000) :
    Calls Try.prog 53 #[v, .func (.func 54) #[] #[]] w fun e w' =>
      ∃ v', e = .returned v' ∧ PtsM w' base v' (Lib.compact l) ∧ Chg (fun k => v.ownBlock = some k) w w' := by
  rcases h.els hl with ⟨rfl, rfl⟩ | ⟨b, cap, es, rfl, hb, hm, he, hrow⟩
  · go_enter Try.func53, Try.ntmps53
    go_wp2
    go_ret
    exact ⟨_, rfl, PtsM.nil _ _, Chg.refl _ _⟩
  · obtain ⟨n, hnn⟩ : ∃ n, n = l.length := ⟨_, rfl⟩
    have hes : es.size = n := by rw [hnn, ← he]; simp
    rw [← hnn] at hn ⊢
    have hall : ∀ wr, RowEl w base b cap wr es → (∀ j, j < n → Lib.keeps l.toArray j = true) → PtsM wr base (.slice (some ⟨b, 0, none⟩) n cap) (Lib.compact l) := by
      intro wr hr hk
      have := hr.pts hb hm
      rw [he, hes] at this
      rw [Lib.compact_all l (fun j hj => hk j (by rw [hnn]; exact hj))]
      exact this
    have hval : ∀ j, j < n → (es[j]!).val = l.toArray[j]! := by
      intro j hj
      rw [getElem!_pos es j (by omega), getElem!_pos l.toArray j (by simp; omega)]
      have h1 : (es.toList.map El.val)[j]'(by simp; omega) = l[j]'(by omega) := by congr 1
      simpa using h1
    have HV := Lib.hid hval
    have HALL := Lib.hid hall
    have HES := Lib.hid hes; have HN := Lib.hid hnn; have HE := Lib.hid he; have HB := Lib.hid hb; have HM := Lib.hid hm
    have HROW := Lib.hid hrow
    have hcap : n ≤ cap := by have := hrow.le; omega
    clear h hl hall hval hes hnn he hb hm hrow
    by_cases h2 : n < 2
    · go_enter Try.func53, Try.ntmps53
      go_wp2
      go_ret
      exact ⟨_, rfl, HALL.out _ HROW.out (fun j hj => Lib.keeps_lt_one _ j (by omega)), Chg.refl _ _⟩
    · go_enter Try.func53, Try.ntmps53
      go_wp2
      go_loopg [5] n (fun g s5 wr => ∃ k : Nat, 1 ≤ k ∧ k ≤ n ∧ n - k ≤ g ∧ s5 = .int .i64 k ∧ Gr w wr ∧ ∀ j, j < k → Lib.keeps l.toArray j = true)
      case atStart => exact ⟨1, Nat.le_refl _, by omega, by omega, rfl, Gr.refl _, Lib.keeps_lt_one _⟩
      case round =>
        obtain ⟨k, hk1, hk, hg, rfl, hgr, hkeep⟩ := hrel
        have HG := Lib.hid hgr; have HK := Lib.hid hkeep
        clear hgr hkeep
        by_cases hlt : k < n
        · obtain ⟨kp, rfl⟩ : ∃ kp, k = kp + 1 := ⟨k - 1, by omega⟩
          have hwp : IntKind.i64.wrap (kp : Int) = (kp : Int) := by rw [IntKind.wrap_i64]; omega
          have jz : (kp : Int) + 1 < (n : Int) := by omega
          have jz1 : (kp : Int) < (n : Int) := by omega
          have p0 : (0 : Int) ≤ (kp : Int) + 1 := by omega
          have e0 : ((kp : Int) + 1).toNat = kp + 1 := by omega
          have mixed : Try.prog.follows .mixedOrders = true := by kernel_rfl
          have hT := (HROW.out.gr HG.out).two (kp + 1) kp (by have := HES.out; omega) (by have := HES.out; omega)
          have hxv : (es[kp + 1]!).val = l.toArray[kp + 1]! := HV.out (kp + 1) hlt
          have hyv : (es[kp]!).val = l.toArray[kp]! := HV.out kp (by omega)
          generalize es[kp + 1]! = x at hT hxv
          generalize es[kp]! = y at hT hyv
          have HX := Lib.hid hxv; have HY := Lib.hid hyv
          clear hxv hyv
          obtain ⟨x0, x1, x2, y0, y1, y2, heq⟩ := hT
          by_cases hdup : x.val = y.val
          · rw [decide_eq_true hdup] at heq
            have HD := Lib.hid hdup
            clear hdup
            go_wp2_with fail
            go_quiet_grown (first | (go_at_call 54; exact heq _ _))
            have HG2 := Lib.hid (HG.out.grow nq osq)
            clear x0 x1 x2 y0 y1 y2 heq
            generalize grow (wr.drewN nq) osq = wr1 at HG2
            have HI0 := Lib.hid (Lib.CompInv.start HK.out (Lib.keeps_neg (by omega) (by rw [Nat.add_sub_cancel, ← HX.out, ← HY.out]; exact HD.out)))
            clear HX HY HD
            go_wp2
            go_loopg [5, 7] n (fun g s5 s7 wr => ∃ (kk k2 : Nat) (dk : Array (El w base b)), s5 = .int .i64 kk ∧ s7 = .int .i64 k2 ∧ 1 ≤ k2 ∧ kp + 1 + k2 ≤ n ∧ n - (kp + 1 + k2) ≤ g ∧ RowEl w base b cap wr dk ∧ dk.size = n ∧ Lib.CompInv l.toArray (kp + 1 + k2) kk (dk.map El.val))
            case atStart => exact ⟨kp + 1, 1, es, by go_num, rfl, Nat.le_refl _, by omega, by omega, HROW.out.gr HG2.out, HES.out, by
              have : es.map El.val = l.toArray := by apply Array.ext'; rw [Array.toList_map, HE.out]
              rw [this]; exact HI0.out⟩
            case round =>
              obtain ⟨kk, k2, dk, rfl, rfl, h1, hle, hg2, hR, hds, hI⟩ := hrel
              have hkk := hI.lt
              have R2 := Lib.hid hR; have I2 := Lib.hid hI; have DS := Lib.hid hds
              clear hR hI hds
              by_cases hlt2 : kp + 1 + k2 < n
              · obtain ⟨kq, rfl⟩ : ∃ kq, k2 = kq + 1 := ⟨k2 - 1, by omega⟩
                have hwp2 : IntKind.i64.wrap (kq : Int) = (kq : Int) := by rw [IntKind.wrap_i64]; omega
                have q0 : (0 : Int) ≤ (kq : Int) + 1 := by omega
                have q1 : ((kq : Int) + 1).toNat = kq + 1 := by omega
                have hm2 : ((n - (kp + 1) : Nat) : Int) = (n : Int) - ((kp : Int) + 1) := by omega
                have q2 : (kq : Int) + 1 < (n : Int) - ((kp : Int) + 1) := by omega
                have q3 : (kq : Int) < (n : Int) - ((kp : Int) + 1) := by omega
                have hT := R2.out.two (kp + 1 + (kq + 1)) (kp + 1 + kq) (by have := DS.out; omega) (by have := DS.out; omega)
                have hxv : (dk[kp + 1 + (kq + 1)]!).val = l.toArray[kp + 1 + (kq + 1)]! := HIGH _ 0 I2.out _ (by have := DS.out; omega) (by omega)
                have hyv : (dk[kp + 1 + kq]!).val = l.toArray[kp + 1 + kq]! := HIGH _ 0 I2.out _ (by have := DS.out; omega) (by omega)
                generalize dk[kp + 1 + (kq + 1)]! = x at hT hxv
                generalize dk[kp + 1 + kq]! = y at hT hyv
                have HX := Lib.hid hxv; have HY := Lib.hid hyv
                clear hxv hyv
                obtain ⟨x0, x1, x2, y0, y1, y2, heq⟩ := hT
                rw [show (kp + 1 + (kq + 1)) * 3 = (kp + 1) * 3 + (kq + 1) * 3 by omega] at x0 x1 x2
                rw [show (kp + 1 + kq) * 3 = (kp + 1) * 3 + kq * 3 by omega] at y0 y1 y2
                by_cases hdup : x.val = y.val
                · rw [decide_eq_true hdup] at heq
                  have HD := Lib.hid hdup
                  clear hdup
                  go_wp2_with fail
                  go_quiet_grown (first | (go_at_call 54; exact heq _ _))
                  have R3 := Lib.hid (R2.out.gr ((Gr.refl wr).grow nq osq))
                  clear x0 x1 x2 y0 y1 y2 heq
                  generalize grow (wr.drewN nq) osq = wr2 at R3
                  go_wp2
                  go_roundg (n - (kp + 1 + (kq + 1 + 1)))
                  case measure => omega
                  case rel => exact ⟨kk, kq + 1 + 1, dk, rfl, by go_num, by omega, by omega, Nat.le_refl _, R3.out, DS.out, I2.out.skip (Lib.keeps_neg (by omega) (by rw [show kp + 1 + (kq + 1) - 1 = kp + 1 + kq by omega, ← HX.out, ← HY.out]; exact HD.out))⟩
                · rw [decide_eq_false hdup] at heq
                  have HD := Lib.hid hdup
                  clear hdup
                  go_wp2_with fail
                  go_quiet_grown (first | (go_at_call 54; exact heq _ _))
                  have R3 := Lib.hid (R2.out.gr ((Gr.refl wr).grow nq osq))
                  have x0' := x0 nq osq; have x1' := x1 nq osq; have x2' := x2 nq osq
                  clear x0 x1 x2 y0 y1 y2 heq
                  generalize grow (wr.drewN nq) osq = wr2 at R3 x0' x1' x2'
                  have hkn : kk < dk.size := by have := DS.out; omega
                  obtain ⟨o0, o1, o2⟩ := R3.out.cell kk hkn
                  have f0 := R3.out.free (kk * 3); have f1 := R3.out.free (kk * 3 + 1); have f2 := R3.out.free (kk * 3 + 2)
                  have hput := R3.out.put kk hkn x
                  obtain ⟨A, c, hx2⟩ := Kd.R_slice x.row
                  rw [hx2] at x2' hput
                  have HP := Lib.hid hput
                  have hkz : (kk : Int) < (n : Int) := by omega
                  clear hput hx2
                  go_wp2
                  go_roundg (n - (kp + 1 + (kq + 1 + 1)))
                  case measure => omega
                  case rel => exact ⟨kk + 1, kq + 1 + 1, dk.setIfInBounds kk x, by go_num, by go_num, by omega, by omega, Nat.le_refl _, HP.out, by simpa using DS.out, by
                    have := I2.out.keep (by have := DS.out; have := HN.out; simp; omega) (Lib.keeps_pos (m := kp + 1 + (kq + 1)) (by rw [show kp + 1 + (kq + 1) - 1 = kp + 1 + kq by omega, ← HX.out, ← HY.out]; exact HD.out))
                    rw [← HX.out] at this
                    rw [Array.map_setIfInBounds]
                    exact this⟩
              · have hend : kp + 1 + k2 = n := by omega
                obtain ⟨vs, hvl, hcl⟩ := run_clear_pt wr b (kk * 3) (n - kk) (cap - kk) (by omega) (fun j hj => R2.out.some _ (by omega)) (fun j => R2.out.free j)
                have hfin := ((R2.out.head kk).behind (kk * 3) (by simp; omega) vs (by omega)).pts HB.out HM.out
                have hes2 : (dk.extract 0 kk).size = kk := by have := DS.out; simp; omega
                have hch := (R2.out.chg.setCells (.inl rfl) vs (kk * 3))
                rw [hes2] at hfin
                have hlist : (dk.extract 0 kk).toList.map El.val = Lib.compact l := by
                  have hI := I2.out
                  rw [hend] at hI
                  unfold Lib.compact
                  rw [← HN.out]
                  refine List.ext_getElem? fun j => ?_
                  rcases Nat.lt_or_ge j kk with hj | hj
                  · rw [hI.low j hj]
                    have : j < dk.size := by have := DS.out; omega
                    rw [getElem!_pos (dk.map El.val) j (by simpa using this), Array.getElem_map]
                    simp [hj, this]
                  · rw [List.getElem?_eq_none (by rw [List.length_map, Array.length_toList, hes2]; exact hj), List.getElem?_eq_none (by rw [hI.len]; exact hj)]
                rw [hlist] at hfin
                have HF := Lib.hid hfin; have HC := Lib.hid hch
                have hkz : (kk : Int) < (n : Int) := by omega
                have hkn : (kk : Int) ≤ (cap : Int) := by omega
                clear hfin hch hlist hes2 hvl
                go_wp2
                go_ret
                exact ⟨_, rfl, HF.out, HC.out⟩
          · rw [decide_eq_false hdup] at heq
            have HD := Lib.hid hdup
            clear hdup
            go_wp2_with fail
            go_quiet_grown (first | (go_at_call 54; exact heq _ _))
            have HG2 := Lib.hid (HG.out.grow nq osq)
            clear x0 x1 x2 y0 y1 y2 heq
            generalize grow (wr.drewN nq) osq = wr1 at HG2
            go_wp2
            go_roundg (n - (kp + 1 + 1))
            case measure => omega
            case rel =>
              refine ⟨kp + 1 + 1, by omega, by omega, by omega, by go_num, HG2.out, fun j hj => ?_⟩
              by_cases e : j = kp + 1
              · subst e
                exact Lib.keeps_pos (by rw [Nat.add_sub_cancel, ← HX.out, ← HY.out]; exact HD.out)
              · exact HK.out j (by omega)
        · have : k = n := by omega
          subst this
          go_wp2
          go_ret
          exact ⟨_, rfl, HALL.out _ (HROW.out.gr HG.out) HK.out, Chg.of_below HG.out.new.below _⟩
end Go.Proofs.Ytgnhlaonckognaa
