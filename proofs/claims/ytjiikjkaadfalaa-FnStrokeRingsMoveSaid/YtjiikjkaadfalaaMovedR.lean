/-
  Polygons moved: the walk.
-/
import Derived.Test.YtjiikjkaadfalaaMoved
import Derived.Test.YtjiikjkaadfalaaOrg
import Derived.Test.YtjiikjkaadfalaaStep
namespace Go.Proofs.Ytjiikjkaadfalaa
open Go Go.RowKit Reg
attribute [local go_sem] calmAt calmUpon
def movedOk (s t : Int) (rs : List Rg) : Bool := rs.all (movedB s t)
def movedR (s t : Int) (rs : List Rg) : List Rg × Bool := if movedOk s t rs then (rs.map (moveL s t), true) else ([], false)
theorem corners_moved (s t : Int) (rs : List Rg) : corners (rs.map (moveL s t)) = corners rs := by unfold corners; rw [List.map_map]; congr 1; apply List.map_congr_left; intro r _; exact moveL_len s t r
theorem rgsB_moved {s t : Int} {rs : List Rg} (h : rgsB rs = true) (hm : movedOk s t rs = true) : rgsB (rs.map (moveL s t)) = true := by
  rw [rgsB_iff] at *
  refine ⟨fun r hr => ?_, by simp; exact h.2.1, by rw [corners_moved]; exact h.2.2⟩
  obtain ⟨q, hq, rfl⟩ := List.mem_map.1 hr
  have := List.all_eq_true.1 hm q hq
  simp only [movedB, Bool.and_eq_true] at this
  exact ⟨by rw [moveL_len]; exact (h.1 q hq).1, this.2⟩
theorem sumS_move (s t : Int) (rs : List Rg) : sumS areaE (rs.map (moveL s t)) = sumS areaE rs := by
  unfold sumS; rw [List.map_map]; congr 1; apply List.map_congr_left; intro r _; exact area_move s t r
def RetMvR (w : World) (R : List Rg × Bool) (e : Ending) (w' : World) : Prop := ∃ A' cap' ss, e = .returned (.tuple #[.slice A' R.1.length cap', .bool R.2]) ∧ OR w' w.heap.size (.slice A' R.1.length cap') R.1 ss ∧ Below w.heap.size w w'
set_option maxRecDepth 100000 in
set_option maxHeartbeats 4000000 in
theorem c_movedRG (A : Option Addr) (cap : Nat) (rs : List Rg) (s t : Int) (w : World) (h : Rgs w A rs) (hl : rs.length ≤ 1000) (hr : ∀ r ∈ rs, 0 < r.length ∧ r.length ≤ 1000) :
    Calls Try.prog 19 #[.slice A rs.length cap, .int .i64 s, .int .i64 t] w (RetMvR w (movedR s t rs)) := by
  have H := Lib.hid h
  have Hr := Lib.hid hr
  have E := Lib.hid (Below.refl w.heap.size w)
  obtain ⟨R, hR⟩ : ∃ R, movedR s t rs = R := ⟨_, rfl⟩
  rw [hR]
  have HR := Lib.hid hR
  clear h hr hR
  go_enter Try.func19, Try.ntmps19
  go_wp2_with fail
  first | refine gen_calls ?_ | refine gen_code ?_ | refine gen_list ?_
  intro w1 hW
  obtain ⟨hb, hR1⟩ := new1 hW
  clear hW
  replace E := Lib.hid (Ext.trans E.out hb)
  clear hb
  have R1 := Lib.hid hR1
  have lR1 := R1.out.lt
  clear hR1
  have O := Lib.hid (⟨rfl, own_of_row (n := 0) R1.out (Nat.le_refl _) rfl (by decide), fun i hi => by simp at hi, fun i j hi => by simp at hi⟩ : OR w1 w.heap.size (.slice (some ⟨w.heap.size, 0, none⟩) 0 0) [] [])
  go_loopw [8, 9, 10, 11] (fun v i _ _ wr => ∃ (k : Nat) (A1 : Option Addr) (cap1 : Nat) (out : List Rg) (ss : List Value), k ≤ rs.length ∧ i = .int .i64 k ∧ v = .slice A1 out.length cap1 ∧ out = (rs.take k).map (moveL s t) ∧ (rs.take k).all (movedB s t) = true ∧ OR wr w.heap.size (.slice A1 out.length cap1) out ss ∧ Below w.heap.size w wr) (fun _ i _ _ _ => rs.length - (intOf i).toNat)
  case atStart => exact ⟨0, _, 0, [], [], Nat.zero_le _, rfl, rfl, by simp, by simp, O.out, E.out⟩
  case round =>
    obtain ⟨k, A1, cap1, out, ss, hk, rfl, rfl, hout, hal, hor, hbw⟩ := hrel
    clear O E R1 lR1
    have O := Lib.hid hor
    have E := Lib.hid hbw
    have Hal := Lib.hid hal
    have Hout := Lib.hid hout
    have hol : out.length ≤ k := by rw [hout]; simp; omega
    have hzr : w.heap.size ≤ wr.heap.size := hbw.size
    clear hor hbw hout hal
    by_cases hlt : k < rs.length
    · obtain ⟨b, off, hA, hbw0, hc⟩ := H.out.rgs (by omega)
      have hbo : b < wr.heap.size := by omega
      subst hA
      have hps := (Hr.out _ (List.getElem_mem hlt)).2
      obtain ⟨A', cap', cr, hp, hle, hmx⟩ := hc k hlt
      have hrp := (Hr.out _ (List.getElem_mem hlt)).1
      have Hn : Hid (out ++ [moveL s t rs[k]] = (rs.take (k + 1)).map (moveL s t)) := Lib.hid (by rw [Hout.out, List.take_succ_eq_append_getElem hlt, List.map_append]; rfl)
      have Hy : Hid (movedB s t rs[k] = true → (rs.take (k + 1)).all (movedB s t) = true) := Lib.hid (fun h => all_take_succ Hal.out hlt h)
      have Hno : Hid (movedB s t rs[k] = false → R = ([], false)) := Lib.hid (fun h => by
        rw [← HR.out]; unfold movedR movedOk; rw [all_false_of hlt h]; rfl)
      have hsl : SlOk A' rs[k].length cap' := ⟨(fun hA => by
        obtain ⟨b', off', hA', _⟩ := hp.pts hrp
        rw [hA] at hA'; cases hA'), hle, by unfold maxLen; exact hmx⟩
      have Hsl := Lib.hid hsl
      have Hp := Lib.hid hp
      have Cr := Lib.hid cr
      have h40 := hps
      clear hc hp cr hsl hps
      generalize rs[k] = r at *
      have L := Lib.hid (fun i hi g hg => (O.out.old i hi g hg).2)
      have hkI : (k : Int) < (rs.length : Int) := by omega
      obtain ⟨d, hd⟩ : ∃ d, movedB s t r = d := ⟨_, rfl⟩
      have Hmp : Hid (movedP s t r = if d then (moveL s t r, true) else ([], false)) := Lib.hid (by unfold movedP; rw [hd])
      rw [hd] at Hy Hno
      clear hd
      have cCr := Cls.cell E.out Cr.out
      go_wp2_with fail
      clear cCr
      refine (c_MovePoints A' cap' r s t _ (Hp.out.ext ptR_stab E.out) Hsl.out (by omega)).mono ?_
      rw [Hmp.out]
      rintro e w2 ⟨A2, cap2, rfl, ho2, hb⟩
      have hz2 := hb.size
      replace E := Lib.hid (Ext.trans E.out hb)
      replace O := Lib.hid (O.out.ext hb)
      clear hb
      have cCr := Cls.cell E.out Cr.out
      clear cCr
      cases d
      · have Hf := Lib.hid (Hno.out rfl)
        go_wp2
        go_ret2
        rw [Hf.out]
        exact ⟨none, 0, [], rfl, ORg.nil _ _ _ _, E.out⟩
      · have P : Hid (Has w2 wr.heap.size 36 2 (.slice A2 (moveL s t r).length cap2) (moveL s t r).length ((moveL s t r).flatMap ptC)) := Lib.hid ho2
        clear ho2
        have Hy2 := Lib.hid (Hy.out rfl)
        go_wp2_with (at_builtin; refine wpList_app (base := w.heap.size) ei_rg rfl (.tmp 31) (.tmp 33) rfl rfl (own_ext O.out.out (ext_alloc _ _)) rfl (src_new w2 _ [_] (m := 1) rfl (by intro u hu; simp at hu; subst hu; rfl)) (by omega) (by simp; omega) ?_; intro ve we hown hg hat; refine stop_in ?_)
        refine stop_out ?_
        obtain ⟨A3, cap3, hve⟩ := own_form hown
        have O3 : Hid (OR we w.heap.size ve (out ++ [moveL s t r]) (ss ++ [.slice A2 (moveL s t r).length cap2])) := Lib.hid ((O.out.ext (ext_alloc _ _)).push TP_ne_TR ((own_ext P.out (ext_alloc _ _)).rebase hzr) L.out (fun g hg => (P.out.lt g hg).1) hown hg)
        have E3 := Lib.hid (own_below (Ext.trans E.out (ext_alloc _ _)) (own_ext O.out.out (ext_alloc _ _)) hg (by simp; omega))
        have hve' : ve = .slice A3 (out ++ [moveL s t r]).length cap3 := by rw [hve, List.length_append]; rfl
        clear hown hg hat hve
        subst hve'
        go_wp2
        go_roundw
        case rel => exact ⟨k + 1, A3, cap3, _, _, by omega, by go_num, rfl, Hn.out, Hy2.out, O3.out, E3.out⟩
        case measure => simp [intOf]; omega
    · have hk' : k = rs.length := by omega
      have Hf : Hid (R = (out, true)) := Lib.hid (by
        have ha := Hal.out
        rw [hk', List.take_length] at ha
        rw [← HR.out, Hout.out, hk', List.take_length]; unfold movedR movedOk; rw [ha]; rfl)
      clear hk'
      go_wp2
      go_ret2
      rw [Hf.out]
      exact ⟨A1, cap1, ss, rfl, O.out, E.out⟩
theorem c_movedR (A : Option Addr) (cap : Nat) (rs : List Rg) (s t : Int) (w : World) (h : Rgs w A rs) (hl : rs.length ≤ 1000) (_hc : corners rs ≤ 1000000) (hr : ∀ r ∈ rs, 0 < r.length ∧ psB r = true) (_hs : -1000 ≤ s ∧ s ≤ 1000) (_ht : -1000 ≤ t ∧ t ≤ 1000) :
    Calls Try.prog 19 #[.slice A rs.length cap, .int .i64 s, .int .i64 t] w (RetMvR w (movedR s t rs)) :=
  c_movedRG A cap rs s t w h hl (fun r hr' => ⟨(hr r hr').1, by have := psB_len (hr r hr').2; omega⟩)
end Go.Proofs.Ytjiikjkaadfalaa
