/-
  The color of a pixel of a scene: the walks.
-/
import Derived.Test.YtjgpojegaojnmaaGreatPixC
import Derived.Test.YtjgpojegaojnmaaGreatDrawL
import Derived.Test.YtjgpojegaojnmaaGreatRegionP
import Derived.Test.YtjgpojegaojnmaaGreatRingsI
import Derived.Test.YtjgpojegaojnmaaGreatRingsS
namespace Go.Proofs.YtjgpojegaojnmaaGreat
open Go Go.RowKit Reg
attribute [local go_sem] calmAt calmUpon
theorem cap_ok {A : Option Addr} {n c : Nat} (h : SlOk A n c) : n ≤ c := h.2.1
theorem bxC_row {w : World} {g : Nat} {e : TypeId} {a b : Bx4} (h : Row w g e (bxC a)) : Row ((((w.setCell ⟨g, 0, none⟩ (.int .i64 b.1)).setCell ⟨g, 1, none⟩ (.int .i64 b.2.1)).setCell ⟨g, 2, none⟩ (.int .i64 b.2.2.1)).setCell ⟨g, 3, none⟩ (.int .i64 b.2.2.2)) g e (bxC b) := (((h.set_ 0 _).set_ 1 _).set_ 2 _).set_ 3 _
theorem set4_below {B : Nat} {w w' : World} {g : Nat} (h : Below B w w') (hg : B ≤ g) (a b c d : Value) : Below B w ((((w'.setCell ⟨g, 0, none⟩ a).setCell ⟨g, 1, none⟩ b).setCell ⟨g, 2, none⟩ c).setCell ⟨g, 3, none⟩ d) :=
  (((h.setCell (p := ⟨g, 0, none⟩) hg _).setCell (p := ⟨g, 1, none⟩) hg _).setCell (p := ⟨g, 2, none⟩) hg _).setCell (p := ⟨g, 3, none⟩) hg _
theorem set4_far {w : World} {g b : Nat} {e : TypeId} {cs : List Value} (h : Row w b e cs) (hne : b ≠ g) (x1 x2 x3 x4 : Value) : Row ((((w.setCell ⟨g, 0, none⟩ x1).setCell ⟨g, 1, none⟩ x2).setCell ⟨g, 2, none⟩ x3).setCell ⟨g, 3, none⟩ x4) b e cs :=
  (((h.far (p := ⟨g, 0, none⟩) hne _).far (p := ⟨g, 1, none⟩) hne _).far (p := ⟨g, 2, none⟩) hne _).far (p := ⟨g, 3, none⟩) hne _
set_option maxRecDepth 100000 in
set_option maxHeartbeats 8000000 in
theorem c_spixel (W H : Int) (A : Option Addr) (cap : Nat) (fs : List FlD) (c r : Int) (w : World) (h : Fls w A fs) (hv : ∀ f ∈ fs, pathOk f.1 = true ∧ rgsB (ringsL f.1) = true ∧ inB f.2.1 0 1 = true ∧ paB f.2.2.1 f.2.2.2.1 f.2.2.2.2 = true) (hl : fs.length ≤ 4) (hc : inB c 0 11 = true) (hr : inB r 0 11 = true) :
    Calls Tryz.prog 30 #[.agg #[.int .i64 W, .int .i64 H, .slice A fs.length cap], .int .i64 c, .int .i64 r] w fun e w' => e = .returned (bx4V (pixL fs c r)) ∧ Below w.heap.size w w' := by
  have PW := Lib.hid h
  have Hv := Lib.hid hv
  have E := Lib.hid (Below.refl w.heap.size w)
  have Hc := Lib.hid hc
  have Hr := Lib.hid hr
  obtain ⟨hc0, hc1⟩ := inB_iff.1 hc
  obtain ⟨hr0, hr1⟩ := inB_iff.1 hr
  have HB : Hid (∀ k, k ≤ fs.length → coB (pixK fs c r k) = true) := Lib.hid (coB_pixK (fun f hf => (hv f hf).2.2.2))
  obtain ⟨M, hM⟩ : ∃ M, pixL fs c r = M := ⟨_, rfl⟩
  have HM : Hid (pixK fs c r fs.length = M) := Lib.hid hM
  rw [hM]
  clear h hv hM hc hr
  go_enter Tryz.func30, Tryz.ntmps30
  go_wp2_with fail
  first | refine gen_calls ?_ | refine gen_code ?_ | refine gen_list ?_
  intro w0 hW
  obtain ⟨hb, hR0, hR1, hR2⟩ := new3 hW
  clear hW
  replace E := Lib.hid (Ext.trans E.out hb)
  clear hb
  have R0 := Lib.hid hR0
  have lR0 := R0.out.lt
  clear hR0
  have R1 := Lib.hid hR1
  have lR1 := R1.out.lt
  clear hR1
  have R2 := Lib.hid hR2
  have lR2 := R2.out.lt
  clear hR2
  obtain ⟨bo, hbo⟩ : ∃ b, w.heap.size + 2 = b := ⟨_, rfl⟩
  obtain ⟨br, hbr⟩ : ∃ b, w.heap.size + 1 = b := ⟨_, rfl⟩
  rw [hbo] at R2 ⊢
  rw [hbr] at R1 ⊢
  have hzo : w.heap.size ≤ bo := by omega
  have hzr : w.heap.size ≤ br := by omega
  have hne1 : w.heap.size ≠ bo := by omega
  have hne2 : br ≠ bo := by omega
  clear hbo hbr
  go_loopw [8] (fun i wr => ∃ k : Nat, k ≤ fs.length ∧ i = .int .i64 k ∧ Row wr bo 27 (bxC (pixK fs c r k)) ∧ Row wr br 27 (bxC (0, 0, 0, 0)) ∧ Row wr w.heap.size 31 [.int .i64 W, .int .i64 H, .slice A fs.length cap] ∧ Ext w wr) (fun i _ => fs.length - (intOf i).toNat)
  case atStart => exact ⟨0, Nat.zero_le _, rfl, R2.out, R1.out, R0.out, E.out⟩
  case round =>
    obtain ⟨k, hk, rfl, hO, hR, hS, hbw⟩ := hrel
    clear E R0 R1 R2
    have E := Lib.hid hbw
    have O := Lib.hid hO
    have R := Lib.hid hR
    have S := Lib.hid hS
    clear hO hR hS hbw
    by_cases hlt : k < fs.length
    · obtain ⟨b, off, hA, _, hcc⟩ := (PW.out.ext flR_stab E.out).fls (by omega)
      obtain ⟨A1, c1, A2, c2, ⟨hvb, _, hst, hsk⟩, x0, x1, x2, x3, x4, x5, x6⟩ := hcc k hlt
      obtain ⟨v1, v2, _, v4⟩ := Hv.out _ (List.getElem_mem hlt)
      have HVb := Lib.hid hvb
      have HSt := Lib.hid hst
      have hcp := hsk.2.1
      have V1 := Lib.hid v1
      have V2 := Lib.hid v2
      have V4 := Lib.hid v4
      have Hs := Lib.hid (pixK_succ (c := c) (r := r) hlt)
      have Hcb := Lib.hid (HB.out k (by omega))
      have HsV := Lib.hid (HB.out (k + 1) (by omega))
      obtain ⟨T, hT⟩ : ∃ T, pixK fs c r k = T := ⟨_, rfl⟩
      rw [hT] at O Hcb Hs
      clear hcc hvb hst hsk v1 v2 v4 hT
      generalize fs[k] = f at *
      obtain ⟨vs, q, ⟨fx, fy⟩, ⟨tx, ty⟩, ss⟩ := f
      dsimp only at x0 x1 x2 x3 x4 x5 x6 HVb HSt hcp V1 V2 V4 Hs
      obtain ⟨Q, hQ⟩ : ∃ Q, ringsL vs = Q := ⟨_, rfl⟩
      have HQ := Lib.hid hQ
      rw [hQ] at V2 Hs
      obtain ⟨K, hK⟩ : ∃ K, coverL Q q c r = K := ⟨_, rfl⟩
      have HK := Lib.hid hK
      have hKb := coverL_bd Q q c r
      rw [hK] at Hs hKb
      obtain ⟨V, hV⟩ : ∃ V, paintL (fx, fy) (tx, ty) ss c r = V := ⟨_, rfl⟩
      have HPV := Lib.hid hV
      have HVc : Hid (coB V = true) := Lib.hid (by rw [← hV]; exact coB_paint V4.out)
      rw [hV] at Hs
      clear hQ hK hV
      have HC2 : Hid (coB (scL V K 16) = true) := Lib.hid (coB_sc HVc.out (by decide) hKb)
      subst hA
      have X0 := Lib.hid x0
      have X1 := Lib.hid x1
      have X2 := Lib.hid x2
      have X3 := Lib.hid x3
      have X4 := Lib.hid x4
      have X5 := Lib.hid x5
      have X6 := Lib.hid x6
      clear x0 x1 x2 x3 x4 x5 x6
      have hkI : (k : Int) < (fs.length : Int) := by omega
      have hkD : decide ((k : Int) < (fs.length : Int)) = true := by simp; omega
      have cX0 := X0.out
      have cX1 := X1.out
      have cX2 := X2.out
      have cX3 := X3.out
      have cX4 := X4.out
      have cX5 := X5.out
      have cX6 := X6.out
      have k0 := S.out.cell_of (i := 0) rfl
      have k1 := S.out.cell_of (i := 1) rfl
      have k2 := S.out.cell_of (i := 2) rfl
      go_wp2_with fail
      clear cX0 cX1 cX2 cX3 cX4 cX5 cX6 k0 k1 k2
      first | refine gen_calls ?_ | refine gen_code ?_ | refine gen_list ?_
      intro w1 hW
      obtain ⟨hb, hF⟩ := new1 hW
      clear hW
      replace E := Lib.hid (Ext.trans E.out hb)
      replace HVb := Lib.hid (HVb.out.ext verbK_stab hb)
      replace HSt := Lib.hid (HSt.out.ext stR_stab hb)
      replace O := Lib.hid (O.out.ext hb)
      have lO := O.out.lt
      replace R := Lib.hid (R.out.ext hb)
      have lR := R.out.lt
      replace S := Lib.hid (S.out.ext hb)
      have lS := S.out.lt
      replace X0 := Lib.hid (Cls.cell hb X0.out)
      replace X1 := Lib.hid (Cls.cell hb X1.out)
      replace X2 := Lib.hid (Cls.cell hb X2.out)
      replace X3 := Lib.hid (Cls.cell hb X3.out)
      replace X4 := Lib.hid (Cls.cell hb X4.out)
      replace X5 := Lib.hid (Cls.cell hb X5.out)
      replace X6 := Lib.hid (Cls.cell hb X6.out)
      clear hb
      have F := Lib.hid hF
      have lF := F.out.lt
      clear hF
      have cX0 := X0.out
      have cX1 := X1.out
      have cX2 := X2.out
      have cX3 := X3.out
      have cX4 := X4.out
      have cX5 := X5.out
      have cX6 := X6.out
      have k0 := S.out.cell_of (i := 0) rfl
      have k1 := S.out.cell_of (i := 1) rfl
      have k2 := S.out.cell_of (i := 2) rfl
      clear cX0 cX1 cX2 cX3 cX4 cX5 cX6 k0 k1 k2
      have f0 := F.out.cell_of (i := 0) rfl
      have f1 := F.out.cell_of (i := 1) rfl
      go_wp2_with fail
      refine wp_region_calm [0,1,3,4,5,6] [2,7,8] (by kernel_rfl) (by kernel_rfl) ?_
      iterate 6 ((refine calm_yes rfl rfl (fun w' hC => (by have f0 := hC.cell f0; have f1 := hC.cell f1; go_simp; rfl)) (fun K hK => ?_); go_simp; refine hK _ ?_; clear hK K))
      refine calm_nil (fun wa hCa => ?_)
      clear f0 f1
      have Ea := ext_cls hCa
      refine late_fn rfl rfl rfl Tryz.func54 (by kernel_rfl) rfl (by go_simp) (fun wb hxb KK hK => (c_srings A1 c1 vs wb (HVb.out.ext verbK_stab (Ext.trans Ea hxb)).toV V1.out).mono ?_)
      rw [HQ.out]
      rintro e wc ⟨A3, cap3, ss3, rfl, ho3, hb⟩
      replace Ea := Ext.trans (Ext.trans Ea hxb) hb
      replace hCa := Cls.ext (Cls.ext hCa hxb) hb
      refine ⟨_, rfl, hK _ _ ⟨fun _ => hCa, ?_⟩⟩
      clear hK KK hxb hb
      refine late_fn rfl rfl rfl Tryz.func53 (by kernel_rfl) rfl (by go_simp) (fun wb hxb KK hK => (c_scover A3 cap3 Q q c r wb (ho3.in_.ext rgR_stab hxb) V2.out (by omega) (by omega)).mono ?_)
      rw [HK.out]
      rintro e wc ⟨rfl, hb⟩
      replace Ea := Ext.trans (Ext.trans Ea hxb) hb
      replace hCa := Cls.ext (Cls.ext hCa hxb) hb
      refine ⟨_, rfl, hK _ _ ⟨fun _ => hCa, ?_⟩⟩
      clear hK KK hxb hb ho3
      refine late_free (by kernel_rfl) rfl rfl (fun wf hxf KK hK => ?_)
      go_simp
      refine hK _ _ ?_
      clear hK KK
      refine late_nil (fun wz hxz => ?_)
      have hb := Ext.trans Ea (Ext.trans hxf hxz)
      clear hxf hxz Ea hCa
      replace E := Lib.hid (Ext.trans E.out hb)
      replace HVb := Lib.hid (HVb.out.ext verbK_stab hb)
      replace HSt := Lib.hid (HSt.out.ext stR_stab hb)
      replace O := Lib.hid (O.out.ext hb)
      have lO := O.out.lt
      replace R := Lib.hid (R.out.ext hb)
      have lR := R.out.lt
      replace S := Lib.hid (S.out.ext hb)
      have lS := S.out.lt
      replace F := Lib.hid (F.out.ext hb)
      have lF := F.out.lt
      clear hb
      have f0 := F.out.cell_of (i := 0) rfl
      have f1 := F.out.cell_of (i := 1) rfl
      clear f0 f1
      have f2 := F.out.cell_of (i := 2) rfl
      have f3 := F.out.cell_of (i := 3) rfl
      have f4 := F.out.cell_of (i := 4) rfl
      have f5 := F.out.cell_of (i := 5) rfl
      have f6 := F.out.cell_of (i := 6) rfl
      have o0 := O.out.cell_of (i := 0) rfl
      have o1 := O.out.cell_of (i := 1) rfl
      have o2 := O.out.cell_of (i := 2) rfl
      have o3 := O.out.cell_of (i := 3) rfl
      go_wp2_with fail
      refine wp_region_calm [0,1,2,3,5,7] [4,6,8,9] (by kernel_rfl) (by kernel_rfl) ?_
      iterate 6 ((refine calm_yes rfl rfl (fun w' hC => (by have f2 := hC.cell f2; have f3 := hC.cell f3; have f4 := hC.cell f4; have f5 := hC.cell f5; have f6 := hC.cell f6; have o0 := hC.cell o0; have o1 := hC.cell o1; have o2 := hC.cell o2; have o3 := hC.cell o3; go_simp; rfl)) (fun K hK => ?_); go_simp; refine hK _ ?_; clear hK K))
      refine calm_nil (fun wa hCa => ?_)
      clear f2 f3 f4 f5 f6 o0 o1 o2 o3
      have Ea := ext_cls hCa
      refine late_fn rfl rfl rfl Tryz.func57 (by kernel_rfl) rfl (by go_simp) (fun wb hxb KK hK => (c_sPaintAt1 (fx, fy) (tx, ty) A2 c2 ss c r wb (HSt.out.ext stR_stab (Ext.trans Ea hxb)) hcp V4.out Hc.out Hr.out).mono ?_)
      rw [HPV.out]
      rintro e wc ⟨rfl, hb⟩
      replace Ea := Ext.trans (Ext.trans Ea hxb) hb
      replace hCa := Cls.ext (Cls.ext hCa hxb) hb
      refine ⟨_, rfl, hK _ _ ⟨fun _ => hCa, ?_⟩⟩
      clear hK KK hxb hb
      refine late_fn rfl rfl rfl Tryz.func56 (by kernel_rfl) rfl (by go_simp) (fun wb hxb KK hK => (c_scaled V K 16 wb HVc.out (by omega) (by omega)).mono ?_)
      rintro e wc ⟨rfl, hb⟩
      replace Ea := Ext.trans (Ext.trans Ea hxb) hb
      replace hCa := Cls.ext (Cls.ext hCa hxb) hb
      refine ⟨_, rfl, hK _ _ ⟨fun _ => hCa, ?_⟩⟩
      clear hK KK hxb hb
      refine late_fn rfl rfl rfl Tryz.func55 (by kernel_rfl) rfl (by go_simp) (fun wb hxb KK hK => (c_over (scL V K 16) T wb HC2.out Hcb.out).mono ?_)
      rintro e wc ⟨rfl, hb⟩
      replace Ea := Ext.trans (Ext.trans Ea hxb) hb
      replace hCa := Cls.ext (Cls.ext hCa hxb) hb
      refine ⟨_, rfl, hK _ _ ⟨fun _ => hCa, ?_⟩⟩
      clear hK KK hxb hb
      refine late_free (by kernel_rfl) rfl rfl (fun ws hxs KK hK => ?_)
      have S3 := O.out.ext (Ext.trans Ea hxs)
      have F3 := R.out.ext (Ext.trans Ea hxs)
      have G3 := S.out.ext (Ext.trans Ea hxs)
      have E3 := Ext.trans (Ext.trans E.out Ea) hxs
      have e0 := S3.cell_of (i := 0) rfl
      have e1 := S3.cell_of (i := 1) rfl
      have e2 := S3.cell_of (i := 2) rfl
      have e3 := S3.cell_of (i := 3) rfl
      have z0 := S3.frozen 0
      have z1 := S3.frozen 1
      have z2 := S3.frozen 2
      have z3 := S3.frozen 3
      go_simp
      refine hK _ _ ?_
      clear hK KK
      refine late_nil (fun w4 hx4 => ?_)
      have S4 : Hid (Row w4 bo 27 (bxC (pixK fs c r (k + 1)))) := Lib.hid (by rw [Hs.out]; exact (bxC_row S3).ext hx4)
      have F4 := Lib.hid ((set4_far F3 hne2 _ _ _ _).ext hx4)
      have G4 := Lib.hid ((set4_far G3 hne1 _ _ _ _).ext hx4)
      have B4 := Lib.hid (Ext.trans (set4_below E3 hzo _ _ _ _) hx4)
      clear e0 e1 e2 e3 z0 z1 z2 z3 S3 F3 G3 E3 hxs hx4 Ea hCa
      go_wp2
      go_roundw
      case rel => exact ⟨k + 1, by omega, by go_num, S4.out, F4.out, G4.out, B4.out⟩
      case measure => simp [intOf]; omega
    · obtain rfl : k = fs.length := by omega
      have hkI : ¬ (fs.length : Int) < (fs.length : Int) := by omega
      have hkD : decide ((fs.length : Int) < (fs.length : Int)) = false := by simp
      have k0 := S.out.cell_of (i := 0) rfl
      have k1 := S.out.cell_of (i := 1) rfl
      have k2 := S.out.cell_of (i := 2) rfl
      have o0 := O.out.cell_of (i := 0) rfl
      have o1 := O.out.cell_of (i := 1) rfl
      have o2 := O.out.cell_of (i := 2) rfl
      have o3 := O.out.cell_of (i := 3) rfl
      have r0 := R.out.cell_of (i := 0) rfl
      have zr0 := R.out.frozen 0
      have r1 := R.out.cell_of (i := 1) rfl
      have zr1 := R.out.frozen 1
      have r2 := R.out.cell_of (i := 2) rfl
      have zr2 := R.out.frozen 2
      have r3 := R.out.cell_of (i := 3) rfl
      have zr3 := R.out.frozen 3
      go_wp2
      exact bodyPost_ret (v := bx4V M) (by rw [← HM.out]; simp [results, Tryz.results30, go_sem, r0, r1, r2, r3]) rfl ⟨rfl, set4_below E.out hzr _ _ _ _⟩
set_option maxRecDepth 100000 in
set_option maxHeartbeats 8000000 in
theorem c_ipixel (W H : Int) (A : Option Addr) (cap : Nat) (fs : List FlD) (c r : Int) (w : World) (h : Fls w A fs) (hv : ∀ f ∈ fs, pathOk f.1 = true ∧ rgsB (ringsL f.1) = true ∧ inB f.2.1 0 1 = true ∧ paB f.2.2.1 f.2.2.2.1 f.2.2.2.2 = true) (hl : fs.length ≤ 4) (hc : inB c 0 11 = true) (hr : inB r 0 11 = true) :
    Calls Tryz.prog 34 #[.agg #[.int .i64 W, .int .i64 H, .slice A fs.length cap], .int .i64 c, .int .i64 r] w fun e w' => e = .returned (bx4V (pixL fs c r)) ∧ Below w.heap.size w w' := by
  have PW := Lib.hid h
  have Hv := Lib.hid hv
  have E := Lib.hid (Below.refl w.heap.size w)
  have Hc := Lib.hid hc
  have Hr := Lib.hid hr
  obtain ⟨hc0, hc1⟩ := inB_iff.1 hc
  obtain ⟨hr0, hr1⟩ := inB_iff.1 hr
  have HB : Hid (∀ k, k ≤ fs.length → coB (pixK fs c r k) = true) := Lib.hid (coB_pixK (fun f hf => (hv f hf).2.2.2))
  obtain ⟨M, hM⟩ : ∃ M, pixL fs c r = M := ⟨_, rfl⟩
  have HM : Hid (pixK fs c r fs.length = M) := Lib.hid hM
  rw [hM]
  clear h hv hM hc hr
  go_enter Tryz.func34, Tryz.ntmps34
  go_wp2_with fail
  first | refine gen_calls ?_ | refine gen_code ?_ | refine gen_list ?_
  intro w0 hW
  obtain ⟨hb, hR0, hR1, hR2⟩ := new3 hW
  clear hW
  replace E := Lib.hid (Ext.trans E.out hb)
  clear hb
  have R0 := Lib.hid hR0
  have lR0 := R0.out.lt
  clear hR0
  have R1 := Lib.hid hR1
  have lR1 := R1.out.lt
  clear hR1
  have R2 := Lib.hid hR2
  have lR2 := R2.out.lt
  clear hR2
  obtain ⟨bo, hbo⟩ : ∃ b, w.heap.size + 2 = b := ⟨_, rfl⟩
  obtain ⟨br, hbr⟩ : ∃ b, w.heap.size + 1 = b := ⟨_, rfl⟩
  rw [hbo] at R2 ⊢
  rw [hbr] at R1 ⊢
  have hzo : w.heap.size ≤ bo := by omega
  have hzr : w.heap.size ≤ br := by omega
  have hne1 : w.heap.size ≠ bo := by omega
  have hne2 : br ≠ bo := by omega
  clear hbo hbr
  have k0 := R0.out.cell_of (i := 0) rfl
  have k1 := R0.out.cell_of (i := 1) rfl
  have k2 := R0.out.cell_of (i := 2) rfl
  go_wp2_with fail
  clear k0 k1 k2
  go_loopw [14] (fun i wr => ∃ k : Nat, k ≤ fs.length ∧ i = .int .i64 k ∧ Row wr bo 27 (bxC (pixK fs c r k)) ∧ Row wr br 27 (bxC (0, 0, 0, 0)) ∧ Row wr w.heap.size 31 [.int .i64 W, .int .i64 H, .slice A fs.length cap] ∧ Ext w wr) (fun i _ => fs.length - (intOf i).toNat)
  case atStart => exact ⟨0, Nat.zero_le _, rfl, R2.out, R1.out, R0.out, E.out⟩
  case round =>
    obtain ⟨k, hk, rfl, hO, hR, hS, hbw⟩ := hrel
    clear E R0 R1 R2
    have E := Lib.hid hbw
    have O := Lib.hid hO
    have R := Lib.hid hR
    have S := Lib.hid hS
    clear hO hR hS hbw
    by_cases hlt : k < fs.length
    · obtain ⟨b, off, hA, _, hcc⟩ := (PW.out.ext flR_stab E.out).fls (by omega)
      obtain ⟨A1, c1, A2, c2, ⟨hvb, _, hst, hsk⟩, x0, x1, x2, x3, x4, x5, x6⟩ := hcc k hlt
      obtain ⟨v1, v2, _, v4⟩ := Hv.out _ (List.getElem_mem hlt)
      have HVb := Lib.hid hvb
      have HSt := Lib.hid hst
      have hcp := hsk.2.1
      have V1 := Lib.hid v1
      have V2 := Lib.hid v2
      have V4 := Lib.hid v4
      have Hs := Lib.hid (pixK_succ (c := c) (r := r) hlt)
      have Hcb := Lib.hid (HB.out k (by omega))
      have HsV := Lib.hid (HB.out (k + 1) (by omega))
      obtain ⟨T, hT⟩ : ∃ T, pixK fs c r k = T := ⟨_, rfl⟩
      rw [hT] at O Hcb Hs
      clear hcc hvb hst hsk v1 v2 v4 hT
      generalize fs[k] = f at *
      obtain ⟨vs, q, ⟨fx, fy⟩, ⟨tx, ty⟩, ss⟩ := f
      dsimp only at x0 x1 x2 x3 x4 x5 x6 HVb HSt hcp V1 V2 V4 Hs
      obtain ⟨Q, hQ⟩ : ∃ Q, ringsL vs = Q := ⟨_, rfl⟩
      have HQ := Lib.hid hQ
      rw [hQ] at V2 Hs
      obtain ⟨K, hK⟩ : ∃ K, coverL Q q c r = K := ⟨_, rfl⟩
      have HK := Lib.hid hK
      have hKb := coverL_bd Q q c r
      rw [hK] at Hs hKb
      obtain ⟨V, hV⟩ : ∃ V, paintL (fx, fy) (tx, ty) ss c r = V := ⟨_, rfl⟩
      have HPV := Lib.hid hV
      have HVc : Hid (coB V = true) := Lib.hid (by rw [← hV]; exact coB_paint V4.out)
      rw [hV] at Hs
      clear hQ hK hV
      have HC2 : Hid (coB (scL V K 16) = true) := Lib.hid (coB_sc HVc.out (by decide) hKb)
      subst hA
      have X0 := Lib.hid x0
      have X1 := Lib.hid x1
      have X2 := Lib.hid x2
      have X3 := Lib.hid x3
      have X4 := Lib.hid x4
      have X5 := Lib.hid x5
      have X6 := Lib.hid x6
      clear x0 x1 x2 x3 x4 x5 x6
      have hkI : (k : Int) < (fs.length : Int) := by omega
      have hkD : decide ((k : Int) < (fs.length : Int)) = true := by simp; omega
      have cX0 := X0.out
      have cX1 := X1.out
      have cX2 := X2.out
      have cX3 := X3.out
      have cX4 := X4.out
      have cX5 := X5.out
      have cX6 := X6.out
      have k0 := S.out.cell_of (i := 0) rfl
      have k1 := S.out.cell_of (i := 1) rfl
      have k2 := S.out.cell_of (i := 2) rfl
      go_wp2_with fail
      clear cX0 cX1 cX2 cX3 cX4 cX5 cX6 k0 k1 k2
      first | refine gen_calls ?_ | refine gen_code ?_ | refine gen_list ?_
      intro w1 hW
      obtain ⟨hb, hF⟩ := new1 hW
      clear hW
      replace E := Lib.hid (Ext.trans E.out hb)
      replace HVb := Lib.hid (HVb.out.ext verbK_stab hb)
      replace HSt := Lib.hid (HSt.out.ext stR_stab hb)
      replace O := Lib.hid (O.out.ext hb)
      have lO := O.out.lt
      replace R := Lib.hid (R.out.ext hb)
      have lR := R.out.lt
      replace S := Lib.hid (S.out.ext hb)
      have lS := S.out.lt
      replace X0 := Lib.hid (Cls.cell hb X0.out)
      replace X1 := Lib.hid (Cls.cell hb X1.out)
      replace X2 := Lib.hid (Cls.cell hb X2.out)
      replace X3 := Lib.hid (Cls.cell hb X3.out)
      replace X4 := Lib.hid (Cls.cell hb X4.out)
      replace X5 := Lib.hid (Cls.cell hb X5.out)
      replace X6 := Lib.hid (Cls.cell hb X6.out)
      clear hb
      have F := Lib.hid hF
      have lF := F.out.lt
      clear hF
      have cX0 := X0.out
      have cX1 := X1.out
      have cX2 := X2.out
      have cX3 := X3.out
      have cX4 := X4.out
      have cX5 := X5.out
      have cX6 := X6.out
      have k0 := S.out.cell_of (i := 0) rfl
      have k1 := S.out.cell_of (i := 1) rfl
      have k2 := S.out.cell_of (i := 2) rfl
      clear cX0 cX1 cX2 cX3 cX4 cX5 cX6 k0 k1 k2
      have f0 := F.out.cell_of (i := 0) rfl
      have f1 := F.out.cell_of (i := 1) rfl
      have f2 := F.out.cell_of (i := 2) rfl
      have f3 := F.out.cell_of (i := 3) rfl
      have f4 := F.out.cell_of (i := 4) rfl
      have f5 := F.out.cell_of (i := 5) rfl
      have f6 := F.out.cell_of (i := 6) rfl
      have o0 := O.out.cell_of (i := 0) rfl
      have o1 := O.out.cell_of (i := 1) rfl
      have o2 := O.out.cell_of (i := 2) rfl
      have o3 := O.out.cell_of (i := 3) rfl
      go_wp2_with fail
      refine wp_region_calm [0,1,2,3,5,6,8,9,10,11,14] [4,7,12,13,15,16] (by kernel_rfl) (by kernel_rfl) ?_
      iterate 11 ((refine calm_yes rfl rfl (fun w' hC => (by have f0 := hC.cell f0; have f1 := hC.cell f1; have f2 := hC.cell f2; have f3 := hC.cell f3; have f4 := hC.cell f4; have f5 := hC.cell f5; have f6 := hC.cell f6; have o0 := hC.cell o0; have o1 := hC.cell o1; have o2 := hC.cell o2; have o3 := hC.cell o3; go_simp; rfl)) (fun K hK => ?_); go_simp; refine hK _ ?_; clear hK K))
      refine calm_nil (fun wa hCa => ?_)
      clear f0 f1 f2 f3 f4 f5 f6 o0 o1 o2 o3
      have Ea := ext_cls hCa
      refine late_fn rfl rfl rfl Tryz.func65 (by kernel_rfl) rfl (by go_simp) (fun wb hxb KK hK => (c_iPaintAt1 (fx, fy) (tx, ty) A2 c2 ss c r wb (HSt.out.ext stR_stab (Ext.trans Ea hxb)) hcp V4.out Hc.out Hr.out).mono ?_)
      rw [HPV.out]
      rintro e wc ⟨rfl, hb⟩
      have hbb := Ext.trans hxb hb
      replace Ea := Ext.trans (Ext.trans Ea hxb) hb
      replace hCa := Cls.ext (Cls.ext hCa hxb) hb
      refine ⟨_, rfl, hK _ _ ⟨fun _ => hCa, ?_⟩⟩
      clear hK KK hxb hb
      refine late_fn rfl rfl rfl Tryz.func67 (by kernel_rfl) rfl (by go_simp) (fun wb hxb KK hK => (c_irings A1 c1 vs wb (HVb.out.ext verbK_stab (Ext.trans Ea hxb)) V1.out).mono ?_)
      rw [HQ.out]
      rintro e wc ⟨A3, cap3, ss3, rfl, ho3, hb⟩
      have HR3 := Lib.hid ho3.in_
      clear ho3
      replace Ea := Ext.trans (Ext.trans Ea hxb) hb
      replace hCa := Cls.ext (Cls.ext hCa hxb) hb
      replace HR3 := HR3
      refine ⟨_, rfl, hK _ _ ⟨fun _ => hCa, ?_⟩⟩
      clear hK KK hxb hb
      refine late_fn rfl rfl rfl Tryz.func66 (by kernel_rfl) rfl (by go_simp) (fun wb hxb KK hK => (c_icover A3 cap3 Q q c r wb (HR3.out.ext rgR_stab (hxb)) V2.out (by omega) (by omega)).mono ?_)
      rw [HK.out]
      rintro e wc ⟨rfl, hb⟩
      replace Ea := Ext.trans (Ext.trans Ea hxb) hb
      replace hCa := Cls.ext (Cls.ext hCa hxb) hb
      refine ⟨_, rfl, hK _ _ ⟨fun _ => hCa, ?_⟩⟩
      clear hK KK hxb hb
      clear HR3
      refine late_fn rfl rfl rfl Tryz.func64 (by kernel_rfl) rfl (by go_simp) (fun wb hxb KK hK => (c_CoverColor V K wb HVc.out hKb).mono ?_)
      rintro e wc ⟨rfl, hb⟩
      replace Ea := Ext.trans (Ext.trans Ea hxb) hb
      replace hCa := Cls.ext (Cls.ext hCa hxb) hb
      refine ⟨_, rfl, hK _ _ ⟨fun _ => hCa, ?_⟩⟩
      clear hK KK hxb hb
      refine late_fn rfl rfl rfl Tryz.func63 (by kernel_rfl) rfl (by go_simp) (fun wb hxb KK hK => (c_OverColor (scL V K 16) T wb HC2.out Hcb.out).mono ?_)
      rintro e wc ⟨rfl, hb⟩
      replace Ea := Ext.trans (Ext.trans Ea hxb) hb
      replace hCa := Cls.ext (Cls.ext hCa hxb) hb
      refine ⟨_, rfl, hK _ _ ⟨fun _ => hCa, ?_⟩⟩
      clear hK KK hxb hb
      refine late_free (by kernel_rfl) rfl rfl (fun ws hxs KK hK => ?_)
      have S3 := O.out.ext (Ext.trans Ea hxs)
      have F3 := R.out.ext (Ext.trans Ea hxs)
      have G3 := S.out.ext (Ext.trans Ea hxs)
      have E3 := Ext.trans (Ext.trans E.out Ea) hxs
      have e0 := S3.cell_of (i := 0) rfl
      have e1 := S3.cell_of (i := 1) rfl
      have e2 := S3.cell_of (i := 2) rfl
      have e3 := S3.cell_of (i := 3) rfl
      have z0 := S3.frozen 0
      have z1 := S3.frozen 1
      have z2 := S3.frozen 2
      have z3 := S3.frozen 3
      go_simp
      refine hK _ _ ?_
      clear hK KK
      refine late_nil (fun w4 hx4 => ?_)
      have S4 : Hid (Row w4 bo 27 (bxC (pixK fs c r (k + 1)))) := Lib.hid (by rw [Hs.out]; exact (bxC_row S3).ext hx4)
      have F4 := Lib.hid ((set4_far F3 hne2 _ _ _ _).ext hx4)
      have G4 := Lib.hid ((set4_far G3 hne1 _ _ _ _).ext hx4)
      have B4 := Lib.hid (Ext.trans (set4_below E3 hzo _ _ _ _) hx4)
      clear e0 e1 e2 e3 z0 z1 z2 z3 S3 F3 G3 E3 hxs hx4 Ea hCa
      go_wp2
      go_roundw
      case rel => exact ⟨k + 1, by omega, by go_num, S4.out, F4.out, G4.out, B4.out⟩
      case measure => simp [intOf]; omega
    · obtain rfl : k = fs.length := by omega
      have hkI : ¬ (fs.length : Int) < (fs.length : Int) := by omega
      have hkD : decide ((fs.length : Int) < (fs.length : Int)) = false := by simp
      have k0 := S.out.cell_of (i := 0) rfl
      have k1 := S.out.cell_of (i := 1) rfl
      have k2 := S.out.cell_of (i := 2) rfl
      have o0 := O.out.cell_of (i := 0) rfl
      have o1 := O.out.cell_of (i := 1) rfl
      have o2 := O.out.cell_of (i := 2) rfl
      have o3 := O.out.cell_of (i := 3) rfl
      have r0 := R.out.cell_of (i := 0) rfl
      have zr0 := R.out.frozen 0
      have r1 := R.out.cell_of (i := 1) rfl
      have zr1 := R.out.frozen 1
      have r2 := R.out.cell_of (i := 2) rfl
      have zr2 := R.out.frozen 2
      have r3 := R.out.cell_of (i := 3) rfl
      have zr3 := R.out.frozen 3
      go_wp2
      exact bodyPost_ret (v := bx4V M) (by rw [← HM.out]; simp [results, Tryz.results34, go_sem, r0, r1, r2, r3]) rfl ⟨rfl, set4_below E.out hzr _ _ _ _⟩
end Go.Proofs.YtjgpojegaojnmaaGreat
