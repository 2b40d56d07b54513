/-
  The last fill that has a point: the walk of the program, whose rounds go over slices.Backward.
-/
import Derived.Test.YtjjnfjnoagfajaaTop
import Derived.Test.YtjjnfjnoagfajaaTopB
import Derived.Test.YtjjnfjnoagfajaaRegionR
namespace Go.Proofs.Ytjjnfjnoagfajaa
open Go Go.RowKit Reg
attribute [local go_sem] calmAt calmUpon Oper.semAt_some
def AllNo (gs : List (FlD × SlD)) (px py : Int) (pre : List (Fin gs.length)) : Prop := ∀ x ∈ pre, insF gs[x].1 px py = false
theorem topK_down (gs : List (FlD × SlD)) (px py : Int) : ∀ j m, j + m = gs.length → AllNo gs px py ((dnF gs.length).take j) → topK (gs.map Prod.fst) px py gs.length = topK (gs.map Prod.fst) px py m
  | 0, m, h, _ => by have e : m = gs.length := by omega
                     rw [e]
  | j + 1, m, h, hn => by
    rw [dnF_take (m := m) (by omega)] at hn
    rw [topK_down gs px py j (m + 1) (by omega) (fun x hx => hn x (List.mem_append_left _ hx))]
    have hm : m < gs.length := by omega
    have h1 := hn ⟨m, hm⟩ (by simp)
    exact topK_no (by simpa using hm) (by simpa using h1)
theorem topK_stop {gs : List (FlD × SlD)} {px py : Int} {j : Nat} {pre : List (Fin gs.length)} {x : Fin gs.length} (hj : j < gs.length) (he : pre ++ [x] = (dnF gs.length).take (j + 1)) (hn : AllNo gs px py pre) (hx : insF gs[x].1 px py = true) : topK (gs.map Prod.fst) px py gs.length = ((x : Nat) : Int) := by
  obtain ⟨m, hm⟩ : ∃ m, j + (m + 1) = gs.length := ⟨gs.length - 1 - j, by omega⟩
  rw [dnF_take hm] at he
  obtain ⟨e1, e2⟩ := List.append_inj' he rfl
  injection e2 with e2 _
  subst e1
  rw [topK_down gs px py j (m + 1) (by omega) hn]
  have hm' : m < gs.length := by omega
  subst e2
  exact topK_yes (by simpa using hm') (by simpa using hx)
/-- Between two rounds. -/
structure TopI (w0 : World) (Bt Bp Bs : Nat) (A : Option Addr) (cap : Nat) (gs : List (FlD × SlD)) (px py : Int) (pre : List (Fin gs.length)) (W : World) : Prop where
  res : Row W Bt 3 [.int .i64 0]
  pt : Row W Bp 46 [.int .i64 px, .int .i64 py]
  bk : Row W Bs 27 [.slice A gs.length cap]
  fls : FlsG W A gs
  below : Below w0.heap.size w0 W
  no : AllNo gs px py pre
/-- Where a round has found a fill. -/
structure TopX (w0 : World) (Bt : Nat) (gs : List (FlD × SlD)) (px py : Int) (c : Code) (pre : List (Fin gs.length)) (W : World) : Prop where
  code : c = .ret
  found : ∃ (pre' : List (Fin gs.length)) (x : Fin gs.length), pre = pre' ++ [x] ∧ AllNo gs px py pre' ∧ insF gs[x].1 px py = true ∧ Row W Bt 3 [.int .i64 ((x : Nat) : Int)]
  below : Below w0.heap.size w0 W
section
variable {w0 : World} {Bt Bp Bs : Nat} {A : Option Addr} {cap : Nat} {gs : List (FlD × SlD)} {px py : Int} {pre : List (Fin gs.length)} {W W' : World} {c : Code}
theorem TopI.ext (h : TopI w0 Bt Bp Bs A cap gs px py pre W) (hx : Ext W W') : TopI w0 Bt Bp Bs A cap gs px py pre W' :=
  ⟨h.res.ext hx, h.pt.ext hx, h.bk.ext hx, h.fls.ext flG_stab hx, Ext.trans h.below hx, h.no⟩
theorem TopI.bkF (h : TopI w0 Bt Bp Bs A cap gs px py pre W) : BkF Bs A cap gs W := ⟨h.bk.cell_of (i := 0) rfl, h.fls⟩
theorem TopI.own {B : Nat} (hB : w0.heap.size ≤ B) : OwnFrom B (fun pre W => TopI w0 Bt Bp Bs A cap gs px py pre W) := by
  intro pre W W' row h hg hr
  have hn := noCells_from hr
  exact ⟨h.res.keptO hg hn, h.pt.keptO hg hn, h.bk.keptO hg hn, h.fls.keptO hg hn, Below.grown h.below hg h.below.size (fun k e => by have := (hr k e).1; omega), h.no⟩
theorem TopX.own {B : Nat} (hB : w0.heap.size ≤ B) : OwnFrom B (fun pre W => TopX w0 Bt gs px py c pre W) := by
  intro pre W W' row h hg hr
  have hn := noCells_from hr
  obtain ⟨pre', x, h1, h2, h3, h4⟩ := h.found
  exact ⟨h.code, ⟨pre', x, h1, h2, h3, h4.keptO hg hn⟩, Below.grown h.below hg h.below.size (fun k e => by have := (hr k e).1; omega)⟩
end
set_option maxRecDepth 100000 in
set_option maxHeartbeats 4000000 in
theorem c_iTopFill (Wd Hd : Int) (A : Option Addr) (cap : Nat) (fs : List FlD) (p : Pt) (w : World) (h : Fls w A fs) (hsm : flsSm fs) :
    Calls Try.prog 19 #[.agg #[.int .i64 Wd, .int .i64 Hd, .slice A fs.length cap], .agg #[.int .i64 p.1, .int .i64 p.2]] w fun e w' => e = .returned (.int .i64 (topR Wd Hd fs p)) ∧ Below w.heap.size w w' := by
  obtain ⟨px, py⟩ := p
  obtain ⟨d1, hd1⟩ : ∃ d, scB Wd Hd fs = d := ⟨_, rfl⟩
  obtain ⟨d2, hd2⟩ : ∃ d, vpB (px, py) = d := ⟨_, rfl⟩
  obtain ⟨M, hM⟩ : ∃ M, topR Wd Hd fs (px, py) = M := ⟨_, rfl⟩
  have HR : Hid (M = if d1 && d2 then topK fs px py fs.length else -1) := Lib.hid (by rw [← hM]; unfold topR; rw [hd1, hd2])
  rw [hM]
  obtain ⟨gs, hgs, hG⟩ := fls_fix h
  have hgl : gs.length = fs.length := by rw [← hgs, List.length_map]
  have KV := Lib.hid (fun w' (hx : Ext w w') => c_iValidScene Wd Hd A cap fs w' (h.ext flR_stab hx) hsm)
  rw [hd1, ← hgl] at KV
  have H1 := Lib.hid hd1
  have H2 := Lib.hid hd2
  have Hg := Lib.hid hgs
  have P := Lib.hid hG
  have hl : gs.length ≤ 1048576 := by rw [hgl]; exact hsm.1
  rw [← hgl] at HR ⊢
  have E := Lib.hid (Below.refl w.heap.size w)
  clear h hsm hd1 hd2 hM hgs hG hgl
  refine callsIn_wide.1 (callsIn_of_wp_marks (n := 4) Try.func19 rfl trivial (wpIn_wide.2 ?_) rfl)
  simp only [Try.ntmps19, List.size_toArray, List.length_cons, List.length_nil, Nat.reduceAdd, Nat.reduceSub, Array.replicate_succ, Array.replicate_zero, List.push_toArray, List.append_toArray, List.nil_append, List.cons_append]
  go_wp2_with fail
  first | refine gen_calls ?_ | refine gen_code ?_ | refine gen_list ?_
  intro w0 hW
  obtain ⟨hb, hR0, hR1, hR2⟩ := new3 hW
  clear hW
  replace E := Lib.hid (Ext.trans E.out hb)
  replace P := Lib.hid (P.out.ext flG_stab hb)
  clear hb
  have R0 := Lib.hid hR0
  have lR0 := R0.out.lt
  clear hR0
  have R1 := Lib.hid hR1
  have lR1 := R1.out.lt
  clear hR1
  have R2 := Lib.hid hR2
  have lR2 := R2.out.lt
  clear hR2
  have k0 := R0.out.cell_of (i := 0) rfl
  have k1 := R0.out.cell_of (i := 1) rfl
  have k2 := R0.out.cell_of (i := 2) rfl
  have m0 := R1.out.cell_of (i := 0) rfl
  have m1 := R1.out.cell_of (i := 1) rfl
  have r0 := R2.out.cell_of (i := 0) rfl
  go_wp2_with fail
  clear k0 k1 k2 m0 m1 r0
  refine (KV.out _ E.out).mono ?_
  rintro e w1 ⟨rfl, hb⟩
  replace E := Lib.hid (Ext.trans E.out hb)
  replace P := Lib.hid (P.out.ext flG_stab hb)
  replace R0 := Lib.hid (R0.out.ext hb)
  have lR0 := R0.out.lt
  replace R1 := Lib.hid (R1.out.ext hb)
  have lR1 := R1.out.lt
  replace R2 := Lib.hid (R2.out.ext hb)
  have lR2 := R2.out.lt
  clear hb
  have k0 := R0.out.cell_of (i := 0) rfl
  have k1 := R0.out.cell_of (i := 1) rfl
  have k2 := R0.out.cell_of (i := 2) rfl
  have m0 := R1.out.cell_of (i := 0) rfl
  have m1 := R1.out.cell_of (i := 1) rfl
  have r0 := R2.out.cell_of (i := 0) rfl
  cases d1
  · have Hf : Hid (M = -1) := Lib.hid (by rw [HR.out]; simp)
    have fr := R2.out.frozen 0
    go_wp2
    have r9 := R2.out.set_ 0 (.int .i64 (-1))
    have c9 := r9.cell_of (i := 0) rfl
    refine bodyPostM_ret (v := .int .i64 (-1)) (by simp [results, Try.results19, go_sem, c9]) rfl ?_
    exact ⟨ret_i Hf.out.symm, Below.setCell E.out (by simp; omega) _⟩
  · go_wp2_with fail
    clear k0 k1 k2 m0 m1 r0
    refine (c_ptvalid (px, py) _).mono ?_
    rw [H2.out]
    rintro e w2 ⟨rfl, hb⟩
    replace E := Lib.hid (Ext.trans E.out hb)
    replace P := Lib.hid (P.out.ext flG_stab hb)
    replace R0 := Lib.hid (R0.out.ext hb)
    have lR0 := R0.out.lt
    replace R1 := Lib.hid (R1.out.ext hb)
    have lR1 := R1.out.lt
    replace R2 := Lib.hid (R2.out.ext hb)
    have lR2 := R2.out.lt
    clear hb
    have k0 := R0.out.cell_of (i := 0) rfl
    have k1 := R0.out.cell_of (i := 1) rfl
    have k2 := R0.out.cell_of (i := 2) rfl
    have m0 := R1.out.cell_of (i := 0) rfl
    have m1 := R1.out.cell_of (i := 1) rfl
    have r0 := R2.out.cell_of (i := 0) rfl
    cases d2
    · have Hf : Hid (M = -1) := Lib.hid (by rw [HR.out]; simp)
      have fr := R2.out.frozen 0
      go_wp2
      have r9 := R2.out.set_ 0 (.int .i64 (-1))
      have c9 := r9.cell_of (i := 0) rfl
      refine bodyPostM_ret (v := .int .i64 (-1)) (by simp [results, Try.results19, go_sem, c9]) rfl ?_
      exact ⟨ret_i Hf.out.symm, Below.setCell E.out (by simp; omega) _⟩
    · have Hf : Hid (M = topK fs px py gs.length) := Lib.hid (by rw [HR.out]; simp)
      have hl4 : gs.length ≤ 4 := by have h4 := scB_len H1.out; rw [← Hg.out, List.length_map] at h4; exact h4
      have hpv := vpB_iff.1 H2.out
      dsimp only at hpv
      go_wp2_with fail
      refine (c_BackwardF _ _ _ _).mono ?_
      rintro e w5 ⟨rfl, rfl⟩
      clear k0 k1 k2 m0 m1 r0
      obtain ⟨bt, hbt⟩ : ∃ b, w.heap.size + 2 = b := ⟨_, rfl⟩
      obtain ⟨bp, hbp⟩ : ∃ b, w.heap.size + 1 = b := ⟨_, rfl⟩
      rw [hbt] at R2 ⊢
      rw [hbp] at R1 ⊢
      have hzt : w.heap.size ≤ bt := by omega
      have hz2 : w.heap.size ≤ w2.heap.size := E.out.size
      clear hbt hbp
      go_wp2_with fail
      refine gen_code (fun W5 hW5 => ?_)
      obtain ⟨E5, hR5⟩ := new1 (c1 := [_]) hW5
      have I0 : TopI w bt bp w2.heap.size A cap gs px py [] W5 := ⟨R2.out.ext E5, R1.out.ext E5, hR5, P.out.ext flG_stab E5, Ext.trans E.out E5, fun _ h => by cases h⟩
      have hzb : w.heap.size ≤ W5.heap.size := by have := E5.size; omega
      have hbt5 : bt < W5.heap.size := I0.res.lt
      have II := Lib.hid I0
      have E5h := Lib.hid E5
      clear hW5 hR5 I0 E5
      refine (wpIn_wide (n := 4)).1 (wpIn_rangeFunc_ownH (F := Fence.wide) (n := 4) rfl (by omega) (gf := 74) (lb := #[.pointer (some ⟨w2.heap.size, 0, none⟩)]) rfl trivial (enters_of Try.func74 (by kernel_rfl) rfl)
        (backF_stops 3 (by omega) w2.heap.size cap A gs (by omega) W5 II.out.bkF) (fun h k x => k (h x))
        (fun W l o o' _ ho hc _ hB => BkF.put hB ho hc) (Below.refl _ _) (fun _ => rfl)
        (fun pre W => TopI w bt bp w2.heap.size A cap gs px py pre W) (fun c pre W => TopX w bt gs px py c pre W) (TopI.own hzb) (fun c => TopX.own hzb) II.out
        (fun x a' W => ∃ Bx, Row W Bx 51 (flC gs[(x : Nat)].2.1 gs[(x : Nat)].1.1.length gs[(x : Nat)].2.2.1 gs[(x : Nat)].1.2.1 gs[(x : Nat)].1.2.2.1 gs[(x : Nat)].1.2.2.2.1 gs[(x : Nat)].2.2.2.1 gs[(x : Nat)].1.2.2.2.2.length gs[(x : Nat)].2.2.2.2) ∧ a' = { tmps := (.agg #[.int .i64 Wd, .int .i64 Hd, .slice A gs.length cap] :: .agg #[.int .i64 px, .int .i64 py] :: .pointer (some ⟨w.heap.size, 0, none⟩) :: .pointer (some ⟨bp, 0, none⟩) :: .pointer (some ⟨bt, 0, none⟩) :: .int .i64 ((x : Nat) : Int) :: .pointer (some ⟨Bx, 0, none⟩) :: .agg #[.int .i64 Wd, .int .i64 Hd, .slice A gs.length cap] :: .bool true :: .bool false :: .bool false :: .agg #[.int .i64 px, .int .i64 py] :: .bool true :: .bool false :: .bool false :: .pointer (some ⟨w.heap.size, 2, none⟩) :: .slice A gs.length cap :: .func (.func 74) #[] #[.pointer (some ⟨w2.heap.size, 0, none⟩)] :: .int .i64 ((x : Nat) : Int) :: flvG gs[(x : Nat)] :: undef :: undef :: undef :: undef :: undef :: undef :: undef :: undef :: undef :: undef :: undef :: undef :: []).toArray, defers := [] }) (fun x a' s W W' row h hg hr => by obtain ⟨Bx, h1, h2⟩ := h; exact ⟨Bx, h1.keptO hg (noCells_from hr), h2⟩) ?assign ?body ?done ?stop)
      case assign =>
        intro l pre x W K hi hK
        have hI := Lib.hid hi
        clear hi
        gi_wp2
        have e1 := ext_alloc W (.cells (flC gs[(x : Nat)].2.1 gs[(x : Nat)].1.1.length gs[(x : Nat)].2.2.1 gs[(x : Nat)].1.2.1 gs[(x : Nat)].1.2.2.1 gs[(x : Nat)].1.2.2.2.1 gs[(x : Nat)].2.2.2.1 gs[(x : Nat)].1.2.2.2.2.length gs[(x : Nat)].2.2.2.2).toArray 51)
        exact hK _ _ (keepsFrom_ext e1) (fun h => ⟨Cls.cell e1 h.1, h.2.ext flG_stab e1⟩) (hI.out.ext e1) ⟨W.heap.size, Row.new W 51 _, rfl⟩
      case body =>
        rintro l pre x a' W _ _ hi ⟨Bx, hBx, rfl⟩ hlen
        have HI := Lib.hid hi
        obtain ⟨b, off, hA, hc⟩ := hi.fls.flG (by omega)
        obtain ⟨hvb, _⟩ := hc x x.2
        have c0 := hBx.cell_of (i := 0) rfl
        have c1 := hBx.cell_of (i := 1) rfl
        have m0 := hi.pt.cell_of (i := 0) rfl
        have m1 := hi.pt.cell_of (i := 1) rfl
        have hxf : (x : Nat) < fs.length := by rw [← Hg.out, List.length_map]; exact x.2
        obtain ⟨q1, q2, _, _⟩ := scB_fl H1.out hxf
        have hfx : fs[(x : Nat)] = gs[(x : Nat)].1 := by simp [← Hg.out]
        rw [hfx] at q1 q2
        obtain ⟨D, hD⟩ : ∃ D, insF gs[(x : Nat)].1 px py = D := ⟨_, rfl⟩
        have HD := Lib.hid hD
        have HDD := Lib.hid hD
        unfold insF at HD
        have HV := Lib.hid hvb
        have Q1 := Lib.hid q1
        have Q2 := Lib.hid q2
        have hwb := windL_bd q2 px py
        clear hi hBx hc hvb q1 q2 hfx hD hA
        generalize gs[(x : Nat)].1 = f at HD HV Q1 Q2 hwb c0 c1 ⊢
        generalize gs[(x : Nat)].2 = sl at HV c0 c1 ⊢
        obtain ⟨vs, q, fr⟩ := f
        obtain ⟨A1, k1, A2, k2⟩ := sl
        dsimp only at HD HV Q1 Q2 hwb c0 c1 ⊢
        obtain ⟨S, hS⟩ : ∃ S, ringsL vs = S := ⟨_, rfl⟩
        have HS := Lib.hid hS
        rw [hS] at Q2 HD hwb
        clear hS
        gi_wp2_with fail
        refine wpIn_region_calm [0,1,3,4,5,6,8,9] [2,7,10] (by kernel_rfl) (by kernel_rfl) (by kernel_rfl) ?_
        iterate 8 ((refine calm_yes rfl rfl (fun w' hC => (by have c0 := hC.cell c0; have c1 := hC.cell c1; have m0 := hC.cell m0; have m1 := hC.cell m1; go_simp; rfl)) (fun K hK => ?_); go_simp; refine hK _ ?_; clear hK K))
        refine calm_nil (fun wa hCa => ?_)
        clear c0 c1 m0 m1
        have Ea := ext_cls hCa
        refine late_fn rfl rfl rfl Try.func45 (by kernel_rfl) rfl (by go_simp) (fun wb hxb K hK => (c_irings A1 k1 vs wb (HV.out.ext verbK_stab (Ext.trans Ea hxb)) Q1.out).mono ?_)
        rw [HS.out]
        rintro e wc ⟨A3, cap3, ss3, rfl, ho3, hb⟩
        have Ec := Ext.trans (Ext.trans Ea hxb) hb
        have hCc := Cls.ext (Cls.ext hCa hxb) hb
        refine ⟨_, rfl, hK _ _ ⟨fun _ => hCc, ?_⟩⟩
        clear hK K
        refine late_fn rfl rfl rfl Try.func44 (by kernel_rfl) rfl (by go_simp) (fun wd hxd K hK => (c_iwinding A3 cap3 S px py wd (ho3.in_.ext rgR_stab hxd) Q2.out (by omega) (by omega)).mono ?_)
        rintro e we ⟨rfl, hbe⟩
        have Ee := Ext.trans Ec (Ext.trans hxd hbe)
        have hCe := Cls.ext (Cls.ext hCc hxd) hbe
        refine ⟨_, rfl, hK _ _ ⟨fun _ => hCe, ?_⟩⟩
        clear hK K
        refine late_fn rfl rfl rfl Try.func43 (by kernel_rfl) rfl (by go_simp) (fun wf hxf K hK => (c_iinside (windL S px py) q wf (by omega)).mono ?_)
        rintro e wg ⟨rfl, rfl⟩
        refine ⟨_, rfl, hK _ _ ⟨fun _ => Cls.ext hCe hxf, ?_⟩⟩
        clear hK K
        refine late_nil (fun wz hxz => ?_)
        have hb := Ext.trans Ee (Ext.trans hxf hxz)
        clear ho3 hxb hxd hbe hxf hxz hCa hCc hCe Ea Ec Ee
        have X := Lib.hid hb
        have I2 := Lib.hid (HI.out.ext hb)
        clear hb
        rw [HD.out]
        clear HD
        dsimp only [OnlyN]
        cases D
        · gi_wp2
          exact ⟨keepsFrom_ext X.out, fun _ => I2.out.bkF, ⟨I2.out.res, I2.out.pt, I2.out.bk, I2.out.fls, I2.out.below, fun y hy => by
            rcases List.mem_append.1 hy with hy | hy
            · exact I2.out.no y hy
            · rw [List.mem_singleton.1 hy]; exact HDD.out⟩⟩
        · have cr := I2.out.res.cell_of (i := 0) rfl
          have fr := I2.out.res.frozen 0
          gi_wp2
          have r9 := I2.out.res.set_ 0 (.int .i64 ((x : Nat) : Int))
          refine ⟨KeepsFrom.trans (keepsFrom_ext X.out) ((KeepsOthers.setCell _ _ _).from _), rfl, ⟨pre, x, rfl, I2.out.no, HDD.out, r9⟩, Below.setCell I2.out.below (by simp; omega) _⟩
      case done =>
        rintro D ys W hD rfl hi hK
        have hM : Marks W w.heap.size [D] := (Marks.nil _ _).cons (w := W5) (Marks.nil _ _) hD (by omega) hK
        have hmk : ({ target := .collected D, args := #[] } : Deferred) :: [] = mks [D] := rfl
        have HM := Lib.hid hM
        have HI := Lib.hid hi
        have hno := hi.no
        have e0 : (dnF gs.length).take gs.length = dnF gs.length := List.take_of_length_le (by rw [dnF_len]; omega)
        rw [← e0] at hno
        have hz := topK_down gs px py gs.length 0 (by omega) hno
        rw [Hg.out] at hz
        have Hz : Hid (M = -1) := Lib.hid (by rw [Hf.out, hz]; rfl)
        have cr := hi.res.cell_of (i := 0) rfl
        have fr := hi.res.frozen 0
        clear hi hM hno e0 hz hK
        go_wp2
        have r9 := HI.out.res.set_ 0 (.int .i64 (-1))
        have hb9 : Below w.heap.size w (W.setCell ⟨bt, 0, none⟩ (.int .i64 (-1))) := Below.setCell HI.out.below (by simp; omega) _
        have hM9 : Marks (W.setCell ⟨bt, 0, none⟩ (.int .i64 (-1))) w.heap.size [D] := HM.out.keeps ((KeepsOthers.setCell _ _ _).from _)
        have c9 := (shut_kept (p := fun W => Row W bt 3 [.int .i64 (-1)]) (fun _ _ _ h hg hr => h.keptO hg hr) [D] _ hM9 r9).cell_of (i := 0) rfl
        refine bodyPostM_marks hM9 (v := .int .i64 (-1)) (by simp [results, Try.results19, go_sem, c9]) rfl ?_
        exact ⟨ret_i Hz.out.symm, Below.trans hb9 (shut_below [D] _ hM9)⟩
      case stop =>
        rintro D c pre W hD ⟨j, hj, hpj⟩ ⟨rfl, ⟨pre', x, rfl, hn, hx, hr⟩, hb⟩ hK
        have hM : Marks W w.heap.size [D] := (Marks.nil _ _).cons (w := W5) (Marks.nil _ _) hD (by omega) hK
        have hz := topK_stop hj hpj hn hx
        rw [Hg.out] at hz
        have Hz : Hid (M = ((x : Nat) : Int)) := Lib.hid (by rw [Hf.out, hz])
        have c9 := (shut_kept (p := fun W => Row W bt 3 [.int .i64 ((x : Nat) : Int)]) (fun _ _ _ h hg hr => h.keptO hg hr) [D] _ hM hr).cell_of (i := 0) rfl
        have HM := Lib.hid hM
        have HB := Lib.hid hb
        clear hM hz hr hb hK hpj hn hx
        refine (wpIn_wide (n := 4)).2 ?_
        go_wp2
        refine bodyPostM_marks HM.out (v := .int .i64 ((x : Nat) : Int)) (by simp [results, Try.results19, go_sem, c9]) rfl ?_
        exact ⟨ret_i Hz.out.symm, Below.trans HB.out (shut_below [D] _ HM.out)⟩
end Go.Proofs.Ytjjnfjnoagfajaa
