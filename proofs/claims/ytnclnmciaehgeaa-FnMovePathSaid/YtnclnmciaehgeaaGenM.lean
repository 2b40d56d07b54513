/-
  Paths and distances drawn.
-/
import Derived.Test.YtnclnmciaehgeaaAPath
namespace Go.Proofs.Ytnclnmciaehgeaa
open Go Go.RowKit Reg
attribute [local go_sem] calmAt calmUpon
set_option maxHeartbeats 1000000 in
theorem c_anyUnit (g N : Nat) (w : World) (h : Rdr w g N) (hN : N + 2 ≤ 1000000) :
    Calls Try.prog 68 #[.pointer (some ⟨g, 0, none⟩)] w fun e w' => Picked w w' e g (N + 2) (fun v => -2000 ≤ v ∧ v ≤ 2000) := by
  have hlt := h.lt
  go_enter Try.func68, Try.ntmps68
  go_wp2_with fail
  refine (c_pick g N 250 _ h (by omega)).mono ?_
  rintro e w1 ⟨v1, rfl, ⟨a0, a1⟩, hr1, hg1⟩
  have a1 := a1 (by decide)
  have HR1 := Lib.hid hr1
  have HG1 := Lib.hid hg1
  have hz := hg1.size
  clear hr1 hg1
  go_wp2_with fail
  refine (c_one g (N + 1) _ 12 [0, 8, 7, -8, -1, 16, 100, 1000, -1000, 1001, -1001, v1 - 125] _ (HR1.out.ext (ext_alloc _ _)) (by omega) (ints_new w1 _ _ rfl rfl) (by simp) (by simp) (fun b off hA => by cases hA; have := HR1.out.lt; omega)).mono ?_
  rintro e w2 ⟨v, rfl, hv, hr2, hg2⟩
  have hv2 : -2000 ≤ v ∧ v ≤ 2000 := by
    simp only [List.mem_cons, List.not_mem_nil, or_false] at hv
    omega
  have HR := Lib.hid hr2
  have HG := Lib.hid (grown_trans HG1.out (grown_trans (grown_ext (ext_alloc _ _)) hg2))
  clear hr2 hg2 hv
  go_wp2_with fail
  go_ret
  exact ⟨v, rfl, hv2, HR.out, HG.out⟩
/-- A path and two distances, the path in rows of its own. -/
def OwnVbM (w w' : World) (e : Ending) : Prop := ∃ A cap, ∃ vs : List Vb, ∃ ss, ∃ x y : Int, e = .returned (.tuple #[.slice A vs.length cap, .int .i64 x, .int .i64 y]) ∧ (∀ v ∈ vs, v.2.length ≤ 41) ∧ vs.length ≤ 100 ∧ (-2000 ≤ x ∧ x ≤ 2000) ∧ (-2000 ≤ y ∧ y ≤ 2000) ∧ OV w' w.heap.size (.slice A vs.length cap) vs ss ∧ Below w.heap.size w w'
set_option maxHeartbeats 1000000 in
theorem c_DrawMovePath (A : Option Addr) (cap : Nat) (bs : List Int) (w : World) (h : In byteR 1 w A bs) (hc : bs.length ≤ cap) (hl : cap ≤ 9223372036854775807) :
    Calls Try.prog 21 #[.slice A bs.length cap] w fun e w' => OwnVbM w w' e := by
  go_enter Try.func21, Try.ntmps21
  go_wp2_with fail
  refine (c_newReader A cap bs w h hc hl).mono ?_
  rintro e w1 ⟨g, rfl, hg0, hr1, hb1⟩
  have R1 := Lib.hid hr1
  have B1 := Lib.hid hb1
  clear hr1 hb1 h
  go_wp2_with fail
  refine (c_anyPath g 0 w1 R1.out (by omega)).mono ?_
  rintro e w2 ⟨A2, cap2, vs, ss, rfl, hall, hlen, ho2, hr2, hg2⟩
  have R2 := Lib.hid hr2
  have B2 := Lib.hid (below_grown B1.out hg2 hg0 B1.out.size)
  have O2 := Lib.hid ho2
  have Hall := Lib.hid hall
  clear hr2 hg2 ho2 hall
  go_wp2_with fail
  refine (c_anyUnit g _ w2 R2.out (by omega)).mono ?_
  rintro e w3 ⟨x, rfl, hx, hr3, hg3⟩
  have R3 := Lib.hid hr3
  have B3 := Lib.hid (below_grown B2.out hg3 hg0 B2.out.size)
  have O3 := Lib.hid (O2.out.keptR R2.out hg3)
  have Hx := Lib.hid hx
  clear hr3 hg3 hx
  go_wp2_with fail
  refine (c_anyUnit g _ w3 R3.out (by omega)).mono ?_
  rintro e w4 ⟨y, rfl, hy, hr4, hg4⟩
  have B4 := Lib.hid (below_grown B3.out hg4 hg0 B3.out.size)
  have O4 := Lib.hid (O3.out.keptR R3.out hg4)
  have Hy := Lib.hid hy
  clear hr4 hg4 hy
  go_wp2_with fail
  go_ret3
  exact ⟨A2, cap2, vs, ss, x, y, rfl, Hall.out, hlen, Hx.out, Hy.out, O4.out.rebase B1.out.size, B4.out⟩
end Go.Proofs.Ytnclnmciaehgeaa
