/-
  Valid scenes, once more: the exported function of the reference.
-/
import Derived.Test.YtjjnfjnoagfajaaScene
namespace Go.Proofs.Ytjjnfjnoagfajaa
open Go Go.RowKit Reg
attribute [local go_sem] calmAt calmUpon
set_option maxRecDepth 100000 in
set_option maxHeartbeats 4000000 in
theorem c_sValidSceneX (W H : Int) (A : Option Addr) (cap : Nat) (fs : List FlD) (w : World) (h : Fls w A fs) (hsm : flsSm fs) :
    Calls Try.prog 7 #[.agg #[.int .i64 W, .int .i64 H, .slice A fs.length cap]] w fun e w' => e = .returned (.bool (scB W H fs)) ∧ Below w.heap.size w w' := by
  have P := Lib.hid h
  have E := Lib.hid (Below.refl w.heap.size w)
  clear h
  go_enter Try.func7, Try.ntmps7
  go_wp2_with fail
  first | refine gen_calls ?_ | refine gen_code ?_ | refine gen_list ?_
  intro w0 hW
  obtain ⟨hb, hR0⟩ := new1 hW
  clear hW
  replace E := Lib.hid (Ext.trans E.out hb)
  replace P := Lib.hid (P.out.ext flR_stab hb)
  clear hb
  have R0 := Lib.hid hR0
  have lR0 := R0.out.lt
  clear hR0
  have k0 := R0.out.cell_of (i := 0) rfl
  have k1 := R0.out.cell_of (i := 1) rfl
  have k2 := R0.out.cell_of (i := 2) rfl
  go_wp2_with fail
  clear k0 k1 k2
  refine (c_sValidScene W H A cap fs _ P.out hsm).mono ?_
  rintro e w1 ⟨rfl, hb⟩
  replace E := Lib.hid (Ext.trans E.out hb)
  replace P := Lib.hid (P.out.ext flR_stab hb)
  replace R0 := Lib.hid (R0.out.ext hb)
  have lR0 := R0.out.lt
  clear hb
  have k0 := R0.out.cell_of (i := 0) rfl
  have k1 := R0.out.cell_of (i := 1) rfl
  have k2 := R0.out.cell_of (i := 2) rfl
  go_wp2
  go_ret
  exact ⟨rfl, E.out⟩
end Go.Proofs.Ytjjnfjnoagfajaa
