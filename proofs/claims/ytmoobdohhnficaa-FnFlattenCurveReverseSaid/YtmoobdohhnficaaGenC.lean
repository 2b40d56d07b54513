/-
  Curves drawn.
-/
import Derived.Test.YtmoobdohhnficaaGen
namespace Go.Proofs.Ytmoobdohhnficaa
open Go Go.RowKit Reg
attribute [local go_sem] calmAt calmUpon
/-- A list of points drawn, in a row of its own. -/
def DrewCv (w w' : World) (e : Ending) (g N : Nat) : Prop := ∃ A cap, ∃ ps : List Pt, e = .returned (.slice A ps.length cap) ∧ ps.length ≤ 5 ∧ Has w' w.heap.size 44 2 (.slice A ps.length cap) ps.length (ps.flatMap ptC) ∧ Rdr w' g N ∧ w.grownBy w' (some g)
set_option maxHeartbeats 2000000 in
theorem c_anyCurve (g N : Nat) (w : World) (h : Rdr w g N) (hN : N + 100 ≤ 1000000) :
    Calls Try.prog 18 #[.pointer (some ⟨g, 0, none⟩)] w fun e w' => DrewCv w w' e g (N + 100) := by
  have hlt := h.lt
  go_enter Try.func18, Try.ntmps18
  go_wp2_with fail
  have O0 := Lib.hid (own_of_row (B := w.heap.size) (sz := 2) (n := 0) (cs := []) (Row.new w 44 []) (Nat.le_refl _) rfl (by decide))
  have G0 : Hid (w.grownBy (w.alloc (.cells #[] 44)) (some g)) := Lib.hid (grown_ext (ext_alloc _ _))
  refine (c_one g N _ 7 [3, 4, 2, 3, 4, 1, 5] _ ((h.ext (ext_alloc _ _)).ext (ext_alloc _ _)) (by omega) (ints_new (w.alloc (.cells #[] 44)) _ _ (by simp) rfl) (by simp) (by simp) (fun b off hA => by cases hA; omega)).mono ?_
  rintro e w1 ⟨v, rfl, hv, hr1, hg1⟩
  have hv : 0 ≤ v ∧ v ≤ 5 := by simp at hv; omega
  obtain ⟨L, rfl⟩ : ∃ L : Nat, v = (L : Int) := ⟨v.toNat, by omega⟩
  have O1 := Lib.hid ((own_ext O0.out (ext_alloc _ _)).keptR ((h.ext (ext_alloc _ _)).ext (ext_alloc _ _)) PT_ne_RD hg1)
  have G1 := Lib.hid (grown_trans (grown_alloc G0.out _) hg1)
  have HR1 := Lib.hid hr1
  clear hr1 hg1 h
  go_wp2_with fail
  go_loopw [3, 4] (fun v n wr => ∃ (m : Nat) (A : Option Addr) (cap : Nat) (ps : List Pt), n = .int .i64 m ∧ v = .slice A ps.length cap ∧ ps.length + m = L ∧ Has wr w.heap.size 44 2 v ps.length (ps.flatMap ptC) ∧ Rdr wr g (N + 1 + 4 * ps.length) ∧ w.grownBy wr (some g)) (fun _ n _ => (intOf n).toNat)
  case atStart => exact ⟨L, _, 0, [], rfl, rfl, by simp, O1.out, by simpa using HR1.out, G1.out⟩
  case round =>
    obtain ⟨m, A, cap, ps, rfl, rfl, hm, how, hrd, hgr⟩ := hrel
    have How := Lib.hid how
    have Hrd := Lib.hid hrd
    have Hgr := Lib.hid hgr
    have hzr : w.heap.size ≤ wr.heap.size := hgr.size
    clear how hrd hgr
    by_cases h0 : 0 < m
    · go_wp2_with fail
      refine (c_anyPoint g _ wr Hrd.out (by omega)).mono ?_
      rintro e w2 ⟨q, rfl, hq, hr2, hg2⟩
      have O2 := Lib.hid (How.out.keptR Hrd.out PT_ne_RD hg2)
      have R2 := Lib.hid hr2
      have G2 := Lib.hid (grown_trans Hgr.out hg2)
      have hz2 : w.heap.size ≤ w2.heap.size := G2.out.size
      clear hr2 hg2
      go_wp2_with (at_builtin; refine wpList_app ei_pt rfl (.tmp 13) (.tmp 16) rfl rfl (own_ext O2.out (ext_alloc _ _)) rfl (src_new w2 _ [_, _] (m := 1) rfl (by intro u hu; simp at hu; rcases hu with rfl | rfl <;> rfl)) (by omega) (by simp; omega) ?_; intro v3 w3 hown3 hg3 hat3)
      obtain ⟨A3, cap3, hv3⟩ := own_form hown3
      have R3 := Lib.hid ((R2.out.ext (ext_alloc _ _)).grown hg3 (fun k hk => by have := (O2.out.lt k hk).1; omega))
      have G3 := Lib.hid (grown_own (grown_alloc G2.out _) hg3 (fun k hk => (O2.out.lt k hk).1))
      have O3 : Hid (Has w3 w.heap.size 44 2 v3 (ps ++ [q]).length ((ps ++ [q]).flatMap ptC)) := Lib.hid (by
        rw [List.flatMap_append, List.length_append]; exact hown3)
      have hv4 : v3 = .slice A3 (ps ++ [q]).length cap3 := by rw [hv3]; simp
      clear hown3 hg3 hat3 hv3 hq
      subst hv4
      go_wp2
      go_roundw
      case rel => exact ⟨m - 1, A3, cap3, ps ++ [q], by go_num, rfl, by simp; omega, O3.out, by rw [List.length_append]; exact R3.out.mono (by simp; omega), G3.out⟩
      case measure => simp [intOf]; omega
    · obtain rfl : m = 0 := by omega
      go_wp2
      go_ret
      exact ⟨A, cap, ps, rfl, by omega, How.out, Hrd.out.mono (by omega), Hgr.out⟩
/-- A curve, a limit and a depth drawn. -/
def OwnCv (w w' : World) (e : Ending) : Prop := ∃ A cap, ∃ ps : List Pt, ∃ x y : Int, e = .returned (.tuple #[.slice A ps.length cap, .int .i64 x, .int .i64 y]) ∧ ps.length ≤ 5 ∧ (-2000 ≤ x ∧ x ≤ 2000) ∧ (-2000 ≤ y ∧ y ≤ 2000) ∧ Has w' w.heap.size 44 2 (.slice A ps.length cap) ps.length (ps.flatMap ptC) ∧ Below w.heap.size w w'
set_option maxHeartbeats 2000000 in
theorem c_DrawFlattenCurve (A : Option Addr) (cap : Nat) (bs : List Int) (w : World) (h : In byteR 1 w A bs) (hc : bs.length ≤ cap) (hl : cap ≤ 9223372036854775807) :
    Calls Try.prog 8 #[.slice A bs.length cap] w fun e w' => OwnCv w w' e := by
  go_enter Try.func8, Try.ntmps8
  go_wp2_with fail
  refine (c_newReader A cap bs w h hc hl).mono ?_
  rintro e w1 ⟨g, rfl, hg0, hr1, hb1⟩
  have R1 := Lib.hid hr1
  have B1 := Lib.hid hb1
  clear hr1 hb1 h
  go_wp2_with fail
  refine (c_anyCurve g 0 w1 R1.out (by omega)).mono ?_
  rintro e w2 ⟨A2, cap2, ps, rfl, hlen, ho2, hr2, hg2⟩
  have R2 := Lib.hid hr2
  have B2 := Lib.hid (below_grown B1.out hg2 hg0 B1.out.size)
  have O2 := Lib.hid ho2
  clear hr2 hg2 ho2
  go_wp2_with fail
  refine (c_one g _ _ 7 [8, 0, 40, 200, 1000, 1001, -1] _ (R2.out.ext (ext_alloc _ _)) (by omega) (ints_new w2 _ _ rfl rfl) (by simp) (by simp) (fun b off hA => by cases hA; have := R2.out.lt; omega)).mono ?_
  rintro e w3 ⟨x, rfl, hx, hr3, hg3⟩
  have hx' : -2000 ≤ x ∧ x ≤ 2000 := by simp at hx; omega
  have R3 := Lib.hid hr3
  have B3 := Lib.hid (below_grown (Ext.trans B2.out (ext_alloc _ _)) hg3 hg0 (Ext.trans B2.out (ext_alloc _ _)).size)
  have O3 := Lib.hid ((own_ext O2.out (ext_alloc _ _)).keptR (R2.out.ext (ext_alloc _ _)) PT_ne_RD hg3)
  clear hr3 hg3 hx
  go_wp2_with fail
  refine (c_one g _ _ 7 [3, 2, 1, 4, 0, 5, -1] _ (R3.out.ext (ext_alloc _ _)) (by omega) (ints_new w3 _ _ rfl rfl) (by simp) (by simp) (fun b off hA => by cases hA; have := R3.out.lt; omega)).mono ?_
  rintro e w4 ⟨y, rfl, hy, hr4, hg4⟩
  have hy' : -2000 ≤ y ∧ y ≤ 2000 := by simp at hy; omega
  have B4 := Lib.hid (below_grown (Ext.trans B3.out (ext_alloc _ _)) hg4 hg0 (Ext.trans B3.out (ext_alloc _ _)).size)
  have O4 := Lib.hid ((own_ext O3.out (ext_alloc _ _)).keptR (R3.out.ext (ext_alloc _ _)) PT_ne_RD hg4)
  clear hr4 hg4 hy
  go_wp2_with fail
  go_ret3
  exact ⟨A2, cap2, ps, x, y, rfl, hlen, hx', hy', O4.out.rebase B1.out.size, B4.out⟩
end Go.Proofs.Ytmoobdohhnficaa
