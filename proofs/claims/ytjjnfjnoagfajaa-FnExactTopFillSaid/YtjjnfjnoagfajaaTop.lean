/-
  The last fill that has a point: plain, and the walk of the reference.
-/
import Derived.Test.YtjjnfjnoagfajaaScene
import Derived.Test.YtjjnfjnoagfajaaCover
import Derived.Test.YtjjnfjnoagfajaaWindI
import Derived.Test.YtjjnfjnoagfajaaWindS
import Derived.Test.YtjjnfjnoagfajaaRegionL
namespace Go.Proofs.Ytjjnfjnoagfajaa
open Go Go.RowKit Reg
attribute [local go_sem] calmAt calmUpon
def insF (f : FlD) (x y : Int) : Bool := insB (windL (ringsL f.1) x y) f.2.1
/-- The last of the first k fills that has a point. -/
def topK (fs : List FlD) (x y : Int) : Nat → Int
  | 0 => -1
  | k + 1 => if (fs[k]?.map fun f => insF f x y) = some true then (k : Int) else topK fs x y k
theorem topK_yes {fs : List FlD} {x y : Int} {k : Nat} (hk : k < fs.length) (h : insF fs[k] x y = true) : topK fs x y (k + 1) = (k : Int) := by
  simp [topK, hk, h]
theorem topK_no {fs : List FlD} {x y : Int} {k : Nat} (hk : k < fs.length) (h : insF fs[k] x y = false) : topK fs x y (k + 1) = topK fs x y k := by
  simp [topK, hk, h]
def topR (W H : Int) (fs : List FlD) (p : Pt) : Int := if scB W H fs && vpB p then topK fs p.1 p.2 fs.length else -1
/-- What a valid fill of a scene is. -/
theorem scB_fl {W H : Int} {fs : List FlD} (h : scB W H fs = true) {k : Nat} (hk : k < fs.length) : pathOk fs[k].1 = true ∧ rgsB (ringsL fs[k].1) = true ∧ inB fs[k].2.1 0 1 = true ∧ paB fs[k].2.2.1 fs[k].2.2.2.1 fs[k].2.2.2.2 = true := by
  unfold scB at h
  simp only [Bool.and_eq_true, List.all_eq_true] at h
  have := h.2 _ (List.getElem_mem hk)
  unfold flB at this
  simp only [Bool.and_eq_true] at this
  exact ⟨this.1.1.1, this.1.1.2, this.1.2, this.2⟩
theorem scB_len {W H : Int} {fs : List FlD} (h : scB W H fs = true) : fs.length ≤ 4 := by
  unfold scB at h
  simp only [Bool.and_eq_true, decide_eq_true_eq] at h
  exact h.1.2
set_option maxRecDepth 100000 in
set_option maxHeartbeats 4000000 in
theorem c_sTopFill (W H : Int) (A : Option Addr) (cap : Nat) (fs : List FlD) (p : Pt) (w : World) (h : Fls w A fs) (hsm : flsSm fs) :
    Calls Try.prog 17 #[.agg #[.int .i64 W, .int .i64 H, .slice A fs.length cap], .agg #[.int .i64 p.1, .int .i64 p.2]] w fun e w' => e = .returned (.int .i64 (topR W H fs p)) ∧ Below w.heap.size w w' := by
  obtain ⟨px, py⟩ := p
  have P := Lib.hid h
  have hl := hsm.1
  have Hsm := Lib.hid hsm
  have E := Lib.hid (Below.refl w.heap.size w)
  obtain ⟨d1, hd1⟩ : ∃ d, scB W H fs = d := ⟨_, rfl⟩
  obtain ⟨d2, hd2⟩ : ∃ d, vpB (px, py) = d := ⟨_, rfl⟩
  obtain ⟨M, hM⟩ : ∃ M, topR W H fs (px, py) = M := ⟨_, rfl⟩
  have HR : Hid (M = if d1 && d2 then topK fs px py fs.length else -1) := Lib.hid (by rw [← hM]; unfold topR; rw [hd1, hd2])
  rw [hM]
  have H1 := Lib.hid hd1
  have H2 := Lib.hid hd2
  clear h hsm hd1 hd2 hM
  go_enter Try.func17, Try.ntmps17
  go_wp2_with fail
  first | refine gen_calls ?_ | refine gen_code ?_ | refine gen_list ?_
  intro w0 hW
  obtain ⟨hb, hR1, hR2⟩ := new2 hW
  clear hW
  replace E := Lib.hid (Ext.trans E.out hb)
  replace P := Lib.hid (P.out.ext flR_stab hb)
  clear hb
  have R1 := Lib.hid hR1
  have lR1 := R1.out.lt
  clear hR1
  have R2 := Lib.hid hR2
  have lR2 := R2.out.lt
  clear hR2
  have k0 := R1.out.cell_of (i := 0) rfl
  have k1 := R1.out.cell_of (i := 1) rfl
  have k2 := R1.out.cell_of (i := 2) rfl
  have m0 := R2.out.cell_of (i := 0) rfl
  have m1 := R2.out.cell_of (i := 1) rfl
  go_wp2_with fail
  clear k0 k1 k2 m0 m1
  refine (c_sValidScene W H A cap fs _ P.out Hsm.out).mono ?_
  rw [H1.out]
  rintro e w1 ⟨rfl, hb⟩
  replace E := Lib.hid (Ext.trans E.out hb)
  replace P := Lib.hid (P.out.ext flR_stab hb)
  replace R1 := Lib.hid (R1.out.ext hb)
  have lR1 := R1.out.lt
  replace R2 := Lib.hid (R2.out.ext hb)
  have lR2 := R2.out.lt
  clear hb
  have k0 := R1.out.cell_of (i := 0) rfl
  have k1 := R1.out.cell_of (i := 1) rfl
  have k2 := R1.out.cell_of (i := 2) rfl
  have m0 := R2.out.cell_of (i := 0) rfl
  have m1 := R2.out.cell_of (i := 1) rfl
  cases d1
  · have Hf : Hid (M = -1) := Lib.hid (by rw [HR.out]; simp)
    go_wp2
    go_ret
    exact ⟨ret_i Hf.out.symm, E.out⟩
  · go_wp2_with fail
    clear k0 k1 k2 m0 m1
    refine (c_validPoint (px, py) _).mono ?_
    rw [H2.out]
    rintro e w2 ⟨rfl, hb⟩
    replace E := Lib.hid (Ext.trans E.out hb)
    replace P := Lib.hid (P.out.ext flR_stab hb)
    replace R1 := Lib.hid (R1.out.ext hb)
    have lR1 := R1.out.lt
    replace R2 := Lib.hid (R2.out.ext hb)
    have lR2 := R2.out.lt
    clear hb
    have k0 := R1.out.cell_of (i := 0) rfl
    have k1 := R1.out.cell_of (i := 1) rfl
    have k2 := R1.out.cell_of (i := 2) rfl
    have m0 := R2.out.cell_of (i := 0) rfl
    have m1 := R2.out.cell_of (i := 1) rfl
    cases d2
    · have Hf : Hid (M = -1) := Lib.hid (by rw [HR.out]; simp)
      go_wp2
      go_ret
      exact ⟨ret_i Hf.out.symm, E.out⟩
    · have Hf : Hid (M = topK fs px py fs.length) := Lib.hid (by rw [HR.out]; simp)
      have hl4 := scB_len H1.out
      have hpv := vpB_iff.1 H2.out
      dsimp only at hpv
      go_wp2_with fail
      clear k0 k1 k2 m0 m1
      have Y := Lib.hid (Ext.refl w2)
      go_loopw [5] (fun i wr => ∃ m : Nat, m ≤ fs.length ∧ i = .int .i64 ((m : Int) - 1) ∧ M = topK fs px py m ∧ Ext w2 wr) (fun i _ => (intOf i + 1).toNat)
      case atStart => exact ⟨fs.length, Nat.le_refl _, rfl, Hf.out, Below.refl _ _⟩
      case round =>
        obtain ⟨m, hm, rfl, hMk, hbw⟩ := hrel
        have HMk := Lib.hid hMk
        have X := Lib.hid (Ext.trans E.out hbw)
        have Q := Lib.hid hbw
        have S1 := Lib.hid (R1.out.ext hbw)
        have S2 := Lib.hid (R2.out.ext hbw)
        clear hMk
        cases m with
        | zero =>
          have hcI : decide ((0 : Int) ≤ ((0 : Nat) : Int) - 1) = false := by simp
          go_wp2
          go_ret
          exact ⟨ret_i HMk.out.symm, X.out⟩
        | succ m =>
          have e : ((m + 1 : Nat) : Int) - 1 = (m : Int) := by omega
          rw [e]
          clear e
          have hmr : m < fs.length := by omega
          obtain ⟨b, off, hA, _, hc⟩ := (P.out.ext flR_stab hbw).fls (by omega)
          obtain ⟨A1, c1, A2, c2, hp, x0, x1, _, _, _, _, _⟩ := hc m hmr
          obtain ⟨q1, q2, _, _⟩ := scB_fl H1.out hmr
          have HV := Lib.hid hp.1
          have Q1 := Lib.hid q1
          have Q2 := Lib.hid q2
          have Hyes := Lib.hid (@topK_yes fs px py m hmr)
          have Hno := Lib.hid (@topK_no fs px py m hmr)
          unfold insF at Hyes Hno
          have hwb := windL_bd q2 px py
          clear hc hp q1 q2 hbw
          subst hA
          generalize fs[m] = f at *
          obtain ⟨vs, q, fr⟩ := f
          dsimp only at x0 x1 HV Q1 Q2 Hyes Hno hwb
          obtain ⟨S, hS⟩ : ∃ S, ringsL vs = S := ⟨_, rfl⟩
          have HS := Lib.hid hS
          rw [hS] at Q2 Hyes Hno hwb
          clear hS
          have X0 := Lib.hid x0
          have X1 := Lib.hid x1
          clear x0 x1
          have hmI : (m : Int) < (fs.length : Int) := by omega
          have hmI2 : (0 : Int) ≤ (m : Int) := by omega
          have hcI : decide ((0 : Int) ≤ (m : Int)) = true := by simp
          have g1 : IntKind.i64.wrap ((m : Int) - 1) = (m : Int) - 1 := IntWalk.i64_in _ (by omega)
          have cX0 := X0.out
          have cX1 := X1.out
          have k0 := S1.out.cell_of (i := 0) rfl
          have k1 := S1.out.cell_of (i := 1) rfl
          have k2 := S1.out.cell_of (i := 2) rfl
          have m0 := S2.out.cell_of (i := 0) rfl
          have m1 := S2.out.cell_of (i := 1) rfl
          go_wp2_with fail
          refine wp_region_calm [0,1,2,3,4,5,7,8,9,10,12,13,14,15,16,17] [6,11,18] (by kernel_rfl) (by kernel_rfl) ?_
          iterate 16 ((refine calm_yes rfl rfl (fun w' hC => (by have k0 := hC.cell k0; have k1 := hC.cell k1; have k2 := hC.cell k2; have m0 := hC.cell m0; have m1 := hC.cell m1; have cX0 := hC.cell cX0; have cX1 := hC.cell cX1; go_simp; rfl)) (fun K hK => ?_); go_simp; refine hK _ ?_; clear hK K))
          refine calm_nil (fun wa hCa => ?_)
          clear cX0 cX1 k0 k1 k2 m0 m1
          have Ea := ext_cls hCa
          refine late_fn rfl rfl rfl Try.func40 (by kernel_rfl) rfl (by go_simp) (fun wb hxb K hK => (c_srings A1 c1 vs wb (HV.out.ext verbK_stab (Ext.trans Ea hxb)).toV Q1.out).mono ?_)
          rw [HS.out]
          rintro e wc ⟨A3, cap3, ss3, rfl, ho3, hb⟩
          have Ec := Ext.trans (Ext.trans Ea hxb) hb
          have hCc := Cls.ext (Cls.ext hCa hxb) hb
          refine ⟨_, rfl, hK _ _ ⟨fun _ => hCc, ?_⟩⟩
          clear hK K
          refine late_fn rfl rfl rfl Try.func39 (by kernel_rfl) rfl (by go_simp) (fun wd hxd K hK => (c_swinding A3 cap3 S px py wd (ho3.in_.ext rgR_stab hxd) Q2.out (by omega) (by omega)).mono ?_)
          rintro e we ⟨rfl, hbe⟩
          have Ee := Ext.trans Ec (Ext.trans hxd hbe)
          have hCe := Cls.ext (Cls.ext hCc hxd) hbe
          refine ⟨_, rfl, hK _ _ ⟨fun _ => hCe, ?_⟩⟩
          clear hK K
          refine late_fn rfl rfl rfl Try.func38 (by kernel_rfl) rfl (by go_simp) (fun wf hxf K hK => (c_sinside (windL S px py) q wf (by omega)).mono ?_)
          rintro e wg ⟨rfl, rfl⟩
          refine ⟨_, rfl, hK _ _ ⟨fun _ => Cls.ext hCe hxf, ?_⟩⟩
          clear hK K
          refine late_nil (fun wz hxz => ?_)
          have hb := Ext.trans Ee (Ext.trans hxf hxz)
          clear ho3 hxb hxd hbe hxf hxz hCa hCc hCe Ea Ec Ee
          replace X := Lib.hid (Ext.trans X.out hb)
          replace Q := Lib.hid (Ext.trans Q.out hb)
          replace S1 := Lib.hid (S1.out.ext hb)
          have lS1 := S1.out.lt
          replace S2 := Lib.hid (S2.out.ext hb)
          have lS2 := S2.out.lt
          replace HV := Lib.hid (HV.out.ext verbK_stab hb)
          replace X0 := Lib.hid (Cls.cell hb X0.out)
          replace X1 := Lib.hid (Cls.cell hb X1.out)
          clear hb
          have cX0 := X0.out
          have cX1 := X1.out
          have k0 := S1.out.cell_of (i := 0) rfl
          have k1 := S1.out.cell_of (i := 1) rfl
          have k2 := S1.out.cell_of (i := 2) rfl
          have m0 := S2.out.cell_of (i := 0) rfl
          have m1 := S2.out.cell_of (i := 1) rfl
          obtain ⟨d, hd⟩ : ∃ d, insB (windL S px py) q = d := ⟨_, rfl⟩
          rw [hd] at Hyes Hno ⊢
          clear hd
          cases d
          · have Hz := Lib.hid (Hno.out rfl)
            go_wp2
            go_roundw
            case rel => exact ⟨m, by omega, by go_num, by rw [HMk.out, Hz.out], Q.out⟩
            case measure => simp [intOf]
          · have Hz := Lib.hid (Hyes.out rfl)
            go_wp2
            go_ret
            exact ⟨ret_i (by rw [HMk.out, Hz.out]), X.out⟩
end Go.Proofs.Ytjjnfjnoagfajaa
