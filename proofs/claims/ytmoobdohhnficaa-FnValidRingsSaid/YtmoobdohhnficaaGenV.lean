/-
  Polygons drawn: the walk of DrawValidRings.
-/
import Derived.Test.YtmoobdohhnficaaGenT
namespace Go.Proofs.Ytmoobdohhnficaa
open Go Go.RowKit Reg
attribute [local go_sem] calmAt calmUpon
/-- Polygons drawn from bytes. -/
def RetNearV (w : World) (e : Ending) (w' : World) : Prop := ∃ A cap, ∃ rs : List Rg, e = .returned (.slice A rs.length cap) ∧ RgsN rs 40 300 ∧ rs.length ≤ cap ∧ Rgs w' A rs ∧ Ext w w'
theorem drew_extV {w wr w' : World} {g : Nat} (h : Ext w wr) (hg : w.heap.size ≤ g) (hG : wr.grownBy w' (some g)) : Ext w w' := below_grown h hG hg h.size
set_option maxRecDepth 100000 in
set_option maxHeartbeats 1000000 in
theorem c_DrawValidRings (A : Option Addr) (cap : Nat) (bs : List Int) (w : World) (h : In byteR 1 w A bs) (hc : bs.length ≤ cap) (hl : cap ≤ 9223372036854775807) :
    Calls Try.prog 5 #[.slice A bs.length cap] w (RetNearV w) := by
  have K := Lib.hid (c_newReader A cap bs w h hc hl)
  clear h
  go_enter Try.func5, Try.ntmps5
  go_wp2_with fail
  refine K.out.mono ?_
  rintro e w1 ⟨g, rfl, hg1, hr1, hb1⟩
  have D := Lib.hid hr1
  have E := Lib.hid hb1
  clear hr1 hb1
  go_wp2_with fail
  refine (c_anyRings g 0 w1 D.out (by omega)).mono ?_
  rintro e w2 ⟨A1, cap1, rs, ss, rfl, hal, hor, hr, hg⟩
  have O := Lib.hid hor
  have E2 := Lib.hid (drew_extV E.out hg1 hg)
  have Hal := Lib.hid hal
  clear hor hr hg hal
  go_wp2
  go_ret
  exact ⟨A1, cap1, rs, rfl, Hal.out, O.out.out.slok.2.1, O.out.in_, E2.out⟩
set_option maxHeartbeats 1000000 in
theorem c_sValidRingsX (A : Option Addr) (cap : Nat) (rs : List Rg) (w : World) (h : Rgs w A rs) (hl : rs.length ≤ 1000000000) (hs : ∀ r ∈ rs, r.length ≤ 1000000000) :
    Calls Try.prog 7 #[.slice A rs.length cap] w fun e w' => e = .returned (.bool (rgsB rs)) ∧ Below w.heap.size w w' := by
  have K := Lib.hid (c_sValidRings A cap rs w h hl hs)
  have E := Lib.hid (Below.refl w.heap.size w)
  clear h hl hs
  go_enter Try.func7, Try.ntmps7
  go_wp2_with fail
  refine (K.out).mono ?_
  rintro e w1 ⟨rfl, hb⟩
  replace E := Lib.hid (Ext.trans E.out hb)
  clear hb
  go_wp2
  go_ret
  exact ⟨rfl, E.out⟩
end Go.Proofs.Ytmoobdohhnficaa
