/-
  Points moved: the program's walks.
-/
import Derived.Test.YtjiikjkaadfalaaClone
import Derived.Test.YtjiikjkaadfalaaRings
namespace Go.Proofs.Ytjiikjkaadfalaa
open Go Go.RowKit Reg
attribute [local go_sem] calmAt calmUpon
def mvP (s t : Int) (p : Pt) : Pt := (p.1 + s, p.2 + t)
def moveL (s t : Int) (r : Rg) : Rg := r.map (mvP s t)
def movedB (s t : Int) (r : Rg) : Bool := psB r && inB s (-1000) 1000 && inB t (-1000) 1000 && psB (moveL s t r)
def movedP (s t : Int) (r : Rg) : Rg × Bool := if movedB s t r then (moveL s t r, true) else ([], false)
/-- The first k points are moved. -/
def mvTo (s t : Int) (r : Rg) (k : Nat) : Rg := moveL s t (r.take k) ++ r.drop k
theorem mvTo_zero (s t : Int) (r : Rg) : mvTo s t r 0 = r := by simp [mvTo, moveL]
theorem mvTo_all (s t : Int) (r : Rg) {k : Nat} (h : k = r.length) : mvTo s t r k = moveL s t r := by subst h; simp [mvTo]
theorem mvTo_len (s t : Int) (r : Rg) {k : Nat} (h : k ≤ r.length) : (mvTo s t r k).length = r.length := by simp [mvTo, moveL]; omega
theorem mvTo_get (s t : Int) {r : Rg} {k : Nat} (h : k < r.length) : (mvTo s t r k)[k]'(by rw [mvTo_len _ _ _ (by omega)]; exact h) = r[k] := by
  unfold mvTo
  rw [List.getElem_append_right (by simp [moveL]; omega)]
  simp only [moveL, List.length_map, List.length_take, List.getElem_drop]
  congr 1; omega
theorem mvTo_set (s t : Int) {r : Rg} {k : Nat} (h : k < r.length) : (mvTo s t r k).set k (mvP s t r[k]) = mvTo s t r (k + 1) := by
  unfold mvTo
  have hl : (moveL s t (r.take k)).length = k := by simp [moveL]; omega
  rw [List.set_append_right _ _ (by omega), hl, Nat.sub_self, List.drop_eq_getElem_cons h, List.set_cons_zero, List.take_succ_eq_append_getElem h]
  simp only [moveL, List.map_append, List.map_cons, List.map_nil, List.append_assoc, List.cons_append, List.nil_append]
set_option maxRecDepth 100000 in
set_option maxHeartbeats 2000000 in
theorem c_moved (A : Option Addr) (cap : Nat) (ps : List Pt) (s t : Int) (w : World) (h : Pts w A ps) (hs : SlOk A ps.length cap) (hv : psB ps = true) (h1 : -1000 ≤ s ∧ s ≤ 1000) (h2 : -1000 ≤ t ∧ t ≤ 1000) :
    Calls Try.prog 54 #[.slice A ps.length cap, .int .i64 s, .int .i64 t] w fun e w' => ∃ A', e = .returned (.slice A' ps.length ps.length) ∧ Has w' w.heap.size 36 2 (.slice A' ps.length ps.length) ps.length ((moveL s t ps).flatMap ptC) ∧ Below w.heap.size w w' := by
  obtain ⟨s1, s2⟩ := h1
  obtain ⟨t1, t2⟩ := h2
  have h40 := psB_len hv
  have Hv := Lib.hid hv
  have K := Lib.hid (c_clone_ei_pt A ps.length cap (ps.flatMap ptC) w (h.src ptC_len (fun x us h => h) ptC_one (by decide)) hs (by omega))
  clear h hs hv
  go_enter Try.func54, Try.ntmps54
  go_wp2_with fail
  refine K.out.mono ?_
  rintro e w1 ⟨A1, rfl, _, ho1, hb1⟩
  have O := Lib.hid ho1
  have E := Lib.hid hb1
  clear ho1 hb1 K
  go_wp2_with fail
  go_loopw [8, 13] (fun _ i wr => ∃ (k : Nat), k ≤ ps.length ∧ i = .int .i64 k ∧ Has wr w.heap.size 36 2 (.slice A1 ps.length ps.length) ps.length ((mvTo s t ps k).flatMap ptC) ∧ Below w.heap.size w wr) (fun _ i _ => ps.length - (intOf i).toNat)
  case atStart => exact ⟨0, Nat.zero_le _, rfl, by rw [mvTo_zero]; exact O.out, E.out⟩
  case round =>
    obtain ⟨k, hk, rfl, how, hbw⟩ := hrel
    by_cases hlt : k < ps.length
    · obtain ⟨g, rfl, hg0, hg⟩ := own_at how (by omega)
      have hml := mvTo_len s t ps hk
      have hmk : k < (mvTo s t ps k).length := by omega
      have fx := flat_get ptC_len (mvTo s t ps k) [] k hmk 0 (by omega)
      have fy := flat_get ptC_len (mvTo s t ps k) [] k hmk 1 (by omega)
      rw [List.append_nil, mvTo_get s t hlt] at fx fy
      have c0 : wr.cell? ⟨g, k * 2, none⟩ = some (.int .i64 ps[k].1) := by have := how.cellAt (k * 2) (by omega); rw [this]; exact fx
      have c1 : wr.cell? ⟨g, k * 2 + 1, none⟩ = some (.int .i64 ps[k].2) := by have := how.cellAt (k * 2 + 1) (by omega); rw [this]; exact fy
      have f0 := how.frozenAt (k * 2)
      have f1 := how.frozenAt (k * 2 + 1)
      have st := (how.stored (k * 2) (.int .i64 (ps[k].1 + s))).1.stored (k * 2 + 1) (.int .i64 (ps[k].2 + t))
      have hset : (((mvTo s t ps k).flatMap ptC).set (k * 2) (.int .i64 (ps[k].1 + s))).set (k * 2 + 1) (.int .i64 (ps[k].2 + t)) = (mvTo s t ps (k + 1)).flatMap ptC := by
        rw [← mvTo_set s t hlt]
        exact flat_set ptC_len (mvTo s t ps k) hmk (mvP s t ps[k])
      rw [hset] at st
      have Hst := Lib.hid st.1
      have Hb := Lib.hid ((hbw.setCell (p := ⟨g, k * 2, none⟩) (by simp; omega) (.int .i64 (ps[k].1 + s))).setCell (p := ⟨g, k * 2 + 1, none⟩) (by simp; omega) (.int .i64 (ps[k].2 + t)))
      obtain ⟨⟨p1, p2⟩, p3, p4⟩ := psB_at Hv.out hlt
      clear st hset how hbw fx fy hml O E
      generalize ps[k] = p at *
      go_wp2
      go_roundw
      case rel => exact ⟨k + 1, by omega, by go_num, Hst.out, Hb.out⟩
      case measure => simp [intOf]; omega
    · have hk' : k = ps.length := by omega
      have O2 : Hid (Has wr w.heap.size 36 2 (.slice A1 ps.length ps.length) ps.length ((moveL s t ps).flatMap ptC)) := Lib.hid (by rw [← mvTo_all s t ps hk']; exact how)
      clear hk' how O
      go_wp2
      go_ret
      exact ⟨A1, rfl, O2.out, hbw⟩
theorem moveL_len (s t : Int) (r : Rg) : (moveL s t r).length = r.length := by simp [moveL]
/-- Points moved, or none. -/
def RetMv (w : World) (R : Rg × Bool) (e : Ending) (w' : World) : Prop := ∃ A' cap', e = .returned (.tuple #[.slice A' R.1.length cap', .bool R.2]) ∧ Has w' w.heap.size 36 2 (.slice A' R.1.length cap') R.1.length (R.1.flatMap ptC) ∧ Below w.heap.size w w'
theorem retMv_nil {w w' : World} (h : Below w.heap.size w w') : RetMv w ([], false) (.returned (.tuple #[.slice none 0 0, .bool false])) w' := ⟨none, 0, rfl, own_nil _ _ _ _, h⟩
set_option maxRecDepth 100000 in
set_option maxHeartbeats 2000000 in
theorem c_MovePoints (A : Option Addr) (cap : Nat) (ps : List Pt) (s t : Int) (w : World) (h : Pts w A ps) (hs : SlOk A ps.length cap) (hl : ps.length ≤ 1000000000) :
    Calls Try.prog 18 #[.slice A ps.length cap, .int .i64 s, .int .i64 t] w (RetMv w (movedP s t ps)) := by
  obtain ⟨R, hR⟩ : ∃ R, movedP s t ps = R := ⟨_, rfl⟩
  rw [hR]
  obtain ⟨d1, hd1⟩ : ∃ d, psB ps = d := ⟨_, rfl⟩
  obtain ⟨d2, hd2⟩ : ∃ d, inB s (-1000) 1000 = d := ⟨_, rfl⟩
  obtain ⟨d3, hd3⟩ : ∃ d, inB t (-1000) 1000 = d := ⟨_, rfl⟩
  obtain ⟨d4, hd4⟩ : ∃ d, psB (moveL s t ps) = d := ⟨_, rfl⟩
  have HR : Hid (R = if (d1 && d2 && d3 && d4) = true then (moveL s t ps, true) else ([], false)) := Lib.hid (by rw [← hR]; unfold movedP movedB; rw [hd1, hd2, hd3, hd4])
  have H := Lib.hid h
  have HS := Lib.hid hs
  have H1 := Lib.hid hd1
  have H2 := Lib.hid hd2
  have H3 := Lib.hid hd3
  have H4 := Lib.hid hd4
  have E := Lib.hid (Below.refl w.heap.size w)
  clear h hs hR hd1 hd2 hd3 hd4
  have hno : Hid (∀ b, (d1 && d2 && d3 && d4) = b → b = false → R = ([], false)) := Lib.hid (fun b h1 h2 => by rw [HR.out, h1, h2]; rfl)
  go_enter Try.func18, Try.ntmps18
  go_wp2_with fail
  refine (c_pointsValid A cap ps _ H.out (by omega)).mono ?_
  rw [H1.out]
  rintro e w1 ⟨rfl, hb⟩
  replace E := Lib.hid (Ext.trans E.out hb)
  replace H := Lib.hid (H.out.ext ptR_stab hb)
  clear hb
  cases d1
  · have Hf := Lib.hid (hno.out _ rfl (by simp))
    go_wp2
    go_ret2
    rw [Hf.out]; exact retMv_nil E.out
  · go_wp2_with fail
    refine (c_isUnit s _).mono ?_
    rw [H2.out]
    rintro e w' ⟨rfl, rfl⟩
    cases d2
    · have Hf := Lib.hid (hno.out _ rfl (by simp))
      go_wp2
      go_ret2
      rw [Hf.out]; exact retMv_nil E.out
    · go_wp2_with fail
      refine (c_isUnit t _).mono ?_
      rw [H3.out]
      rintro e w' ⟨rfl, rfl⟩
      cases d3
      · have Hf := Lib.hid (hno.out _ rfl (by simp))
        go_wp2
        go_ret2
        rw [Hf.out]; exact retMv_nil E.out
      · have hz := E.out.size
        go_wp2_with fail
        refine (c_moved A cap ps s t _ H.out HS.out H1.out (inB_iff.1 H2.out) (inB_iff.1 H3.out)).mono ?_
        rintro e w2 ⟨A2, rfl, ho2, hb⟩
        replace E := Lib.hid (Ext.trans E.out hb)
        replace H := Lib.hid (H.out.ext ptR_stab hb)
        clear hb
        have O := Lib.hid ((ho2.rebase hz))
        clear ho2
        have hml := moveL_len s t ps
        have P : Hid (Pts w2 A2 (moveL s t ps)) := Lib.hid (own_in (enc := ptC) (R := ptR) ptC_len (by decide) (by rw [← hml] at O; exact O.out) (fun _ => rfl))
        have KV := Lib.hid (c_pointsValid A2 ps.length (moveL s t ps) w2 P.out (by omega))
        rw [hml] at KV
        have Hml := Lib.hid hml
        clear hml
        go_wp2_with fail
        refine KV.out.mono ?_
        rw [H4.out]
        rintro e w3 ⟨rfl, hb⟩
        replace E := Lib.hid (Ext.trans E.out hb)
        replace H := Lib.hid (H.out.ext ptR_stab hb)
        replace O := Lib.hid (own_ext O.out hb)
        clear hb
        cases d4
        · have Hf := Lib.hid (hno.out _ rfl (by simp))
          go_wp2
          go_ret2
          rw [Hf.out]; exact retMv_nil E.out
        · have Hf : Hid (R = (moveL s t ps, true)) := Lib.hid (by rw [HR.out]; rfl)
          go_wp2
          go_ret2
          rw [Hf.out]
          exact ⟨A2, ps.length, by simp only [Hml.out]; rfl, by simp only [Hml.out]; exact O.out, E.out⟩
end Go.Proofs.Ytjiikjkaadfalaa
