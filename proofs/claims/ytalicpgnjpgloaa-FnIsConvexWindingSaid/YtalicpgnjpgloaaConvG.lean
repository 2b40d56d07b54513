/-
  Polygons drawn for IsConvex: the walk.
-/
import Derived.Test.YtalicpgnjpgloaaDrawClean
import Derived.Test.YtalicpgnjpgloaaGenR
namespace Go.Proofs.Ytalicpgnjpgloaa
open Go Go.RowKit Reg
attribute [local go_sem] calmAt calmUpon
set_option maxRecDepth 100000 in
set_option maxHeartbeats 4000000 in
theorem c_DrawIsConvex (A : Option Addr) (cap : Nat) (bs : List Int) (w : World) (h : In byteR 1 w A bs) (hc : bs.length ≤ cap) (hl : cap ≤ 9223372036854775807) :
    Calls Try.prog 5 #[.slice A bs.length cap] w fun e w' => OwnPts w w' e (fun ps => ps.length ≤ 100) := by
  go_enter Try.func5, Try.ntmps5
  go_wp2_with fail
  refine (c_newReader A cap bs w h hc hl).mono ?_
  rintro e w1 ⟨g, rfl, hg0, hr1, hb1⟩
  have D := Lib.hid hr1
  have B := Lib.hid hb1
  clear hr1 hb1 h
  have G : Hid (w1.grownBy w1 (some g)) := Lib.hid (only_refl _ _)
  go_wp2_with fail
  refine (c_pick g 0 3 _ D.out (by omega)).mono ?_
  rintro e w2 ⟨v, rfl, _, hr, hg⟩
  replace G := Lib.hid (grown_trans G.out hg)
  replace D := Lib.hid hr
  clear hr hg
  by_cases hv0 : v = 0
  · have hb0 : (v == 0) = true := by simp [hv0]
    clear hv0
    go_wp2_with fail
    refine (c_anyBox g _ _ D.out (by omega)).mono ?_
    rintro e w3 ⟨⟨l, t, r, bt⟩, rfl, _, hr, hg⟩
    replace G := Lib.hid (grown_trans G.out hg)
    replace D := Lib.hid hr
    clear hr hg
    have B3 := Lib.hid (below_grown B.out G.out hg0 B.out.size)
    have hz := B3.out.size
    go_wp2
    go_ret
    refine ⟨some ⟨w3.heap.size + 1, 0, none⟩, 4, [(l, t), (r, t), (r, bt), (l, bt)], rfl, by simp, own_of_row (n := 4) (sz := 2) ?_ (by omega) rfl (by decide), Ext.trans B3.out (Ext.trans (ext_alloc _ _) (ext_alloc _ _))⟩
    have hL := Row.new (w3.alloc (.cells #[.int .i64 l, .int .i64 t, .int .i64 r, .int .i64 bt] 40)) 31 ([(l, t), (r, t), (r, bt), (l, bt)].flatMap ptC)
    rw [World.size_alloc] at hL
    exact hL
  have hb0 : (v == 0) = false := by simp [hv0]
  by_cases hv1 : v = 1
  · have hb1 : (v == 1) = true := by simp [hv1]
    clear hv1 hv0
    go_wp2_with fail
    refine (c_somePoint g _ _ D.out (by omega)).mono ?_
    rintro e w3 ⟨⟨p0, p1⟩, rfl, _, hr, hg⟩
    replace G := Lib.hid (grown_trans G.out hg)
    replace D := Lib.hid hr
    clear hr hg
    go_wp2_with fail
    refine (c_somePoint g _ _ D.out (by omega)).mono ?_
    rintro e w4 ⟨⟨q0, q1⟩, rfl, _, hr, hg⟩
    replace G := Lib.hid (grown_trans G.out hg)
    replace D := Lib.hid hr
    clear hr hg
    go_wp2_with fail
    refine (c_somePoint g _ _ D.out (by omega)).mono ?_
    rintro e w5 ⟨⟨s0, s1⟩, rfl, _, hr, hg⟩
    replace G := Lib.hid (grown_trans G.out hg)
    replace D := Lib.hid hr
    clear hr hg
    have B3 := Lib.hid (below_grown B.out G.out hg0 B.out.size)
    have hz := B3.out.size
    go_wp2
    go_ret
    refine ⟨some ⟨w5.heap.size, 0, none⟩, 3, [(p0, p1), (q0, q1), (s0, s1)], rfl, by simp, own_of_row (n := 3) (sz := 2) ?_ (by omega) rfl (by decide), Ext.trans B3.out (ext_alloc _ _)⟩
    exact Row.new w5 31 _
  have hb1 : (v == 1) = false := by simp [hv1]
  clear hv1 hv0
  go_wp2_with fail
  refine (c_anyPoints g _ _ D.out (by omega)).mono ?_
  rintro e w3 ⟨A2, cap2, qs, rfl, _, hlen, ho, hr, hg⟩
  have B3 : Hid (Below w.heap.size w w3) := Lib.hid (below_grown B.out (grown_trans G.out hg) hg0 B.out.size)
  have hzz : w.heap.size ≤ w2.heap.size := Nat.le_trans B.out.size G.out.size
  have O := Lib.hid (ho.rebase hzz)
  clear ho hr hg
  go_wp2
  go_ret
  exact ⟨A2, cap2, qs, rfl, hlen, O.out, B3.out⟩
end Go.Proofs.Ytalicpgnjpgloaa
