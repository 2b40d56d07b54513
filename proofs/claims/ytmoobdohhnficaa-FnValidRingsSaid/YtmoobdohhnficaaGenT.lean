/-
  Polygons drawn that may be invalid, and what is drawn with them: the walks.
-/
import Derived.Test.YtmoobdohhnficaaGenS
namespace Go.Proofs.Ytmoobdohhnficaa
open Go Go.RowKit Reg
attribute [local go_sem] calmAt calmUpon
set_option maxRecDepth 100000 in
set_option maxHeartbeats 4000000 in
theorem c_anyRings (g N : Nat) (w : World) (h : Rdr w g N) (hN : N + 400 ≤ 1000000) :
    Calls Try.prog 14 #[.pointer (some ⟨g, 0, none⟩)] w fun e w' => DrewRgs w w' e g (N + 400) 40 := by
  have hlt := h.lt
  have D := Lib.hid h
  have G : Hid (w.grownBy w (some g)) := Lib.hid (only_refl _ _)
  clear h
  go_enter Try.func14, Try.ntmps14
  go_wp2_with fail
  refine (c_randomRings g N _ D.out (by omega)).mono ?_
  rintro e w1 ⟨A, cap, rs, ss, rfl, hal, hor, hr, hg⟩
  replace G := Lib.hid (grown_trans G.out hg)
  replace D := Lib.hid hr
  have O := Lib.hid (hor)
  clear hor
  clear hr hg
  have Hal := Lib.hid hal
  have hrl := hal.1
  clear hal
  go_wp2_with fail
  refine (c_pick g _ 24 _ D.out (by omega)).mono ?_
  rintro e w2 ⟨v, rfl, _, hr, hg⟩
  replace G := Lib.hid (grown_trans G.out hg)
  replace O := Lib.hid (O.out.keptR D.out hg)
  replace D := Lib.hid hr
  clear hr hg
  have hz2 : w.heap.size ≤ w2.heap.size := G.out.size
  have L := Lib.hid (fun i hi g hg => (O.out.old i hi g hg).2)
  have hgl := D.out.lt
  by_cases hv0 : v = 0
  · have hb0 : (v == 0) = true := by simp [hv0]
    clear hv0
    go_wp2_with (at_builtin; refine wpList_app (base := w.heap.size) ei_rg rfl (.tmp 10) (.tmp 12) rfl rfl ((O.out.ext (ext_alloc _ _)).ext (ext_alloc _ _)).out rfl (src_at _ _ [_] (m := 1) rfl (by intro u hu; simp at hu; subst hu; rfl) (by simp)) (by omega) (by simp; omega) ?_; intro ve we hown hg hat; refine stop_in ?_)
    refine stop_out ?_
    obtain ⟨A3, cap3, hve⟩ := own_form hown
    have O3 : Hid (OR we w.heap.size ve (rs ++ [[]]) (ss ++ [.slice (some ⟨w2.heap.size, 0, none⟩) 0 0])) := Lib.hid (((O.out.ext (ext_alloc _ _)).ext (ext_alloc _ _)).push (r := []) TP_ne_TR ((own_of_row (n := 0) (B := w2.heap.size) (sz := 2) ((Row.new w2 44 []).ext (ext_alloc _ _)) (Nat.le_refl _) rfl (by decide)).rebase hz2) L.out (fun g hg => by have hg : some w2.heap.size = some g := hg; injection hg with hg; omega) hown hg)
    have D3 := Lib.hid (((D.out.ext (ext_alloc _ _)).ext (ext_alloc _ _)).grown hg (fun k hk => by have := O.out.lt k hk; omega))
    have G3 := Lib.hid (grown_own (grown_alloc (grown_alloc G.out _) _) hg (fun k hk => O.out.lt k hk))
    have hve' : ve = .slice A3 (rs ++ [[]]).length cap3 := by rw [hve, List.length_append]; rfl
    have Hal3 : Hid (RgsN (rs ++ [[]]) 40 300) := Lib.hid ((rgsN_snoc Hal.out (by simp) (by simp)).mono (by omega) (Nat.le_refl _))
    clear hown hg hat hve
    subst hve'
    go_wp2
    go_ret
    exact ⟨A3, cap3, _, _, rfl, Hal3.out, O3.out, D3.out.mono (by omega), G3.out⟩
  have hb0 : (v == 0) = false := by simp [hv0]
  clear hv0
  by_cases hv1 : v = 1
  · have hb1 : (v == 1) = true := by simp [hv1]
    clear hv1
    go_wp2_with fail
    refine (c_anyPoint g _ _ D.out (by omega)).mono ?_
    rintro e w3 ⟨q, rfl, hq, hr, hg⟩
    have hz3 := hg.size
    replace G := Lib.hid (grown_trans G.out hg)
    replace O := Lib.hid (O.out.keptR D.out hg)
    replace D := Lib.hid hr
    clear hr hg
    have hz4 : w.heap.size ≤ w3.heap.size := G.out.size
    go_wp2_with (at_builtin; refine wpList_app (base := w.heap.size) ei_rg rfl (.tmp 16) (.tmp 20) rfl rfl ((O.out.ext (ext_alloc _ _)).ext (ext_alloc _ _)).out rfl (src_at _ _ [_] (m := 1) rfl (by intro u hu; simp at hu; subst hu; rfl) (by simp)) (by omega) (by simp; omega) ?_; intro ve we hown hg hat; refine stop_in ?_)
    refine stop_out ?_
    obtain ⟨A3, cap3, hve⟩ := own_form hown
    have O3 : Hid (OR we w.heap.size ve (rs ++ [[q]]) (ss ++ [.slice (some ⟨w3.heap.size, 0, none⟩) 1 1])) := Lib.hid (((O.out.ext (ext_alloc _ _)).ext (ext_alloc _ _)).push (r := [q]) TP_ne_TR ((own_of_row (n := 1) (B := w3.heap.size) (sz := 2) ((Row.new w3 44 [.int .i64 q.1, .int .i64 q.2]).ext (ext_alloc _ _)) (Nat.le_refl _) rfl (by decide)).rebase hz4) L.out (fun g hg => by have hg : some w3.heap.size = some g := hg; injection hg with hg; omega) hown hg)
    have D3 := Lib.hid (((D.out.ext (ext_alloc _ _)).ext (ext_alloc _ _)).grown hg (fun k hk => by have := O.out.lt k hk; omega))
    have G3 := Lib.hid (grown_own (grown_alloc (grown_alloc G.out _) _) hg (fun k hk => O.out.lt k hk))
    have hve' : ve = .slice A3 (rs ++ [[q]]).length cap3 := by rw [hve, List.length_append]; rfl
    have Hal3 : Hid (RgsN (rs ++ [[q]]) 40 300) := Lib.hid ((rgsN_snoc Hal.out (by simp) (by simp; exact hq)).mono (by omega) (Nat.le_refl _))
    clear hown hg hat hve
    subst hve'
    go_wp2
    go_ret
    exact ⟨A3, cap3, _, _, rfl, Hal3.out, O3.out, D3.out.mono (by omega), G3.out⟩
  have hb1 : (v == 1) = false := by simp [hv1]
  clear hv1
  by_cases hv2 : v = 2
  · have hb2 : (v == 2) = true := by simp [hv2]
    clear hv2
    go_wp2_with fail
    have hgw2 : g < w2.heap.size := hgl
    go_loopw [3] (fun v3 wr => ∃ (A : Option Addr) (cap : Nat) (rs : List Rg) (ss : List Value), v3 = .slice A rs.length cap ∧ RgsN rs 40 300 ∧ OR wr w.heap.size (.slice A rs.length cap) rs ss ∧ Rdr wr g (N + 310 + 2 * rs.length) ∧ w.grownBy wr (some g)) (fun v3 _ => 9 - slN v3)
    case atStart => exact ⟨A, cap, rs, ss, rfl, Hal.out.mono (by omega) (Nat.le_refl _), O.out, D.out.mono (by omega), G.out⟩
    case round =>
      obtain ⟨A, cap, rs, ss, rfl, hal, hor, hrd, hgr⟩ := hrel
      clear O D G L Hal
      have O := Lib.hid hor
      have D := Lib.hid hrd
      have G := Lib.hid hgr
      have Hal := Lib.hid hal
      have hrl2 := hal.1
      have hzr : w.heap.size ≤ wr.heap.size := hgr.size
      clear hor hrd hgr hal
      have L := Lib.hid (fun i hi g hg => (O.out.old i hi g hg).2)
      by_cases hlt9 : rs.length < 9
      · go_wp2_with fail
        refine (c_somePoint g _ _ D.out (by omega)).mono ?_
        rintro e w3 ⟨q, rfl, hq, hr, hg⟩
        have hz3 := hg.size
        replace G := Lib.hid (grown_trans G.out hg)
        replace O := Lib.hid (O.out.keptR D.out hg)
        replace D := Lib.hid hr
        clear hr hg
        have hz4 : w.heap.size ≤ w3.heap.size := G.out.size
        have hgl3 := D.out.lt
        go_wp2_with (at_builtin; refine wpList_app (base := w.heap.size) ei_rg rfl (.tmp 27) (.tmp 31) rfl rfl ((O.out.ext (ext_alloc _ _)).ext (ext_alloc _ _)).out rfl (src_at _ _ [_] (m := 1) rfl (by intro u hu; simp at hu; subst hu; rfl) (by simp)) (by omega) (by simp; omega) ?_; intro ve we hown hg hat; refine stop_in ?_)
        refine stop_out ?_
        obtain ⟨A3, cap3, hve⟩ := own_form hown
        have O3 : Hid (OR we w.heap.size ve (rs ++ [[q]]) (ss ++ [.slice (some ⟨w3.heap.size, 0, none⟩) 1 1])) := Lib.hid (((O.out.ext (ext_alloc _ _)).ext (ext_alloc _ _)).push (r := [q]) TP_ne_TR ((own_of_row (n := 1) (B := w3.heap.size) (sz := 2) ((Row.new w3 44 [.int .i64 q.1, .int .i64 q.2]).ext (ext_alloc _ _)) (Nat.le_refl _) rfl (by decide)).rebase hz4) L.out (fun g hg => by have hg : some w3.heap.size = some g := hg; injection hg with hg; omega) hown hg)
        have D3 := Lib.hid (((D.out.ext (ext_alloc _ _)).ext (ext_alloc _ _)).grown hg (fun k hk => by have := O.out.lt k hk; omega))
        have G3 := Lib.hid (grown_own (grown_alloc (grown_alloc G.out _) _) hg (fun k hk => O.out.lt k hk))
        have hve' : ve = .slice A3 (rs ++ [[q]]).length cap3 := by rw [hve, List.length_append]; rfl
        have hrl3 : (rs ++ [[q]]).length = rs.length + 1 := by simp
        have Hrl3 := Lib.hid hrl3
        have Hal3 : Hid (RgsN (rs ++ [[q]]) 40 300) := Lib.hid ⟨by omega, (rgsN_snoc Hal.out (by simp) (by simp; exact hq)).2⟩
        clear hown hg hat hve hrl3
        subst hve'
        go_wp2
        go_roundw
        case rel => exact ⟨A3, cap3, _, _, rfl, Hal3.out, O3.out, D3.out.mono (by have := Hrl3.out; omega), G3.out⟩
        case measure => simp [slN]; omega
      · go_wp2
        go_ret
        exact ⟨A, cap, rs, ss, rfl, Hal.out, O.out, D.out.mono (by omega), G.out⟩
  have hb2 : (v == 2) = false := by simp [hv2]
  clear hv2
  go_wp2
  go_ret
  exact ⟨A, cap, rs, ss, rfl, Hal.out.mono (by omega) (Nat.le_refl _), O.out, D.out.mono (by omega), G.out⟩
end Go.Proofs.Ytmoobdohhnficaa
