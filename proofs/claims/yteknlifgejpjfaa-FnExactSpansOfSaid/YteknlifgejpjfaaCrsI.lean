/-
  The crossings of a row: the program's walk; CrossesOf, both.
-/
import Derived.Test.YteknlifgejpjfaaCrsT
import Derived.Test.YteknlifgejpjfaaSortD
import Derived.Test.YteknlifgejpjfaaClips
namespace Go.Proofs.Yteknlifgejpjfaa
open Go Go.RowKit Reg
attribute [local go_sem] calmAt calmUpon
theorem frst_left {y : Int} {a b : Pt} (hs : stepS y a b ≠ 0) {n : Nat} (hn : n ≤ 48) (h : ∀ j : Nat, j < n → leftB a b (4 * (j : Int) + 2) y = false) (h2 : n = 48 ∨ leftB a b (4 * (n : Int) + 2) y = true) : frst y a b = n := by
  refine frst_eq hn (fun j hj => ?_) ?_
  · rw [stepL_impl, if_neg (by rw [h j hj]; simp)]
  · rcases h2 with h2 | h2
    · exact .inl h2
    · right; rw [stepL_impl, if_pos ⟨hs, h2⟩]; exact hs
/-- The crossings of a row of polygons, in order. -/
def crossR (rs : List Rg) (row : Int) : List Pt := if rgsB rs && inB row 0 47 then srtC (crsL (edgesS rs) (4 * row + 2)) else []
theorem crossR_len (rs : List Rg) (row : Int) : (crossR rs row).length ≤ 200 := by
  unfold crossR
  split
  · rename_i h
    simp only [Bool.and_eq_true] at h
    rw [srtC_len]
    refine Nat.le_trans (crsL_len _ _) ?_
    rw [edgesS_len]
    exact (rgsB_iff.1 h.1).2.2
  · simp
theorem crsE_no {y : Int} {e : Ed} (h : stepS y e.1 e.2 = 0) : crsE y e.1 e.2 = [] := by unfold crsE; rw [dir_step, if_pos h]
theorem crsE_yes {y : Int} {e : Ed} (h : stepS y e.1 e.2 ≠ 0) : crsE y e.1 e.2 = [(((frst y e.1 e.2 : Nat) : Int), stepS y e.1 e.2)] := by
  unfold crsE; rw [dir_step, if_neg h]
set_option maxRecDepth 100000 in
set_option maxHeartbeats 16000000 in
theorem c_icrosses (A : Option Addr) (cap : Nat) (rs : List Rg) (row : Int) (w : World) (h : Rgs w A rs) (hv : rgsB rs = true) (hy : 0 ≤ row ∧ row ≤ 47) :
    Calls Try.prog 26 #[.slice A rs.length cap, .int .i64 row] w fun e w' => RetP 47 w (srtC (crsL (edgesS rs) (4 * row + 2))) e w' := by
  have H := Lib.hid h
  have hr := rgsB_iff.1 hv
  have hrl : rs.length ≤ 8 := hr.2.1
  have hcr : corners rs ≤ 200 := hr.2.2
  obtain ⟨hy1, hy2⟩ := hy
  have Hv := Lib.hid hv
  obtain ⟨S, hS⟩ : ∃ S, srtC (crsL (edgesS rs) (4 * row + 2)) = S := ⟨_, rfl⟩
  rw [hS]
  have HS := Lib.hid hS
  clear h hr hv hS
  have E := Lib.hid (Below.refl w.heap.size w)
  go_enter Try.func26, Try.ntmps26
  go_wp2_with fail
  refine (c_sampleAt row _ (by omega)).mono ?_
  rintro e w' ⟨rfl, rfl⟩
  go_wp2_with fail
  refine (c_edges A cap rs _ H.out (by omega) (by omega)).mono ?_
  rintro e w1 ⟨A4, cap4, rfl, hed, hb⟩
  replace E := Lib.hid (Ext.trans E.out hb)
  replace H := Lib.hid (H.out.ext rgR_stab hb)
  clear hb
  have hz1 : w.heap.size ≤ w1.heap.size := E.out.size
  have hel := edgesS_len rs
  have Hpt := Lib.hid (fun e (he : e ∈ edgesS rs) => edgesS_pts Hv.out he)
  have Ed1 := Lib.hid hed
  have hel' : (edgesS rs).length ≤ 200 := by omega
  obtain ⟨y, hyy⟩ : ∃ y, y = 4 * row + 2 := ⟨_, rfl⟩
  rw [← hyy]
  rw [← hyy] at HS
  have hy3 : 0 ≤ y ∧ y ≤ 200 := by omega
  obtain ⟨hy3, hy4⟩ := hy3
  clear hed hel hyy
  generalize edgesS rs = es at *
  have X := Lib.hid (Below.refl w1.heap.size w1)
  go_wp2_with fail
  go_loopw [5, 8, 9, 10, 16] (fun o _ _ _ i wr => ∃ (k : Nat) (A1 : Option Addr) (cap1 : Nat) (fs : List Pt), k ≤ es.length ∧ i = .int .i64 k ∧ o = .slice A1 fs.length cap1 ∧ fs = crsL (es.take k) y ∧ Has wr w1.heap.size 47 2 (.slice A1 fs.length cap1) fs.length (fs.flatMap ptC) ∧ Below w1.heap.size w1 wr) (fun _ _ _ _ i _ => es.length - (intOf i).toNat)
  case atStart => exact ⟨0, none, 0, [], Nat.zero_le _, rfl, rfl, rfl, own_nil _ _ _ _, X.out⟩
  case round =>
    obtain ⟨k, A2, cap2, fs, hk, rfl, rfl, hfs, ho, hbw⟩ := hrel
    clear X
    have O := Lib.hid ho
    have X := Lib.hid hbw
    have hzr : w1.heap.size ≤ wr.heap.size := hbw.size
    have hfl : fs.length ≤ 200 := by
      rw [hfs]
      refine Nat.le_trans (crsL_len _ _) ?_
      rw [List.length_take]
      omega
    have Hfs := Lib.hid hfs
    clear ho hbw hfs
    by_cases hlt : k < es.length
    · obtain ⟨b, off, hA, _, hc⟩ := (Ed1.out.ext edR_stab X.out).eds (by omega)
      obtain ⟨c0, c1, c2, c3⟩ := hc k hlt
      obtain ⟨hp1, hp2⟩ := Hpt.out es[k] (List.getElem_mem hlt)
      have Hst : Hid (crsL (es.take (k + 1)) y = fs ++ crsE y es[k].1 es[k].2) := Lib.hid (by rw [List.take_succ_eq_append_getElem hlt, crsL_snoc, ← Hfs.out])
      clear hc
      generalize es[k] = e at *
      have K1 := Lib.hid (fun W => c_step e y W)
      have K2 := Lib.hid (fun (x : Int) W (hx : -2000 ≤ x ∧ x ≤ 2000) => c_left e x y W hp1 hp2 hx (by omega))
      have K3 := Lib.hid (fun (x : Int) W (hx : -1000 ≤ x ∧ x ≤ 1000) => c_sampleAt x W hx)
      have HF := Lib.hid (fun (hs : stepS y e.1 e.2 ≠ 0) (n : Nat) (hn : n ≤ 48) h h2 => frst_left hs (n := n) hn h h2)
      have HE0 := Lib.hid (fun h => crsE_no (y := y) (e := e) h)
      have HE1 := Lib.hid (fun h => crsE_yes (y := y) (e := e) h)
      obtain ⟨N, hN⟩ : ∃ N, frst y e.1 e.2 = N := ⟨_, rfl⟩
      rw [hN] at HF HE1
      obtain ⟨f, hf⟩ : ∃ f : Int → Bool, ∀ x, leftB e.1 e.2 x y = f x := ⟨_, fun _ => rfl⟩
      simp only [hf] at K2 HF
      have hsb : -1 ≤ stepS y e.1 e.2 ∧ stepS y e.1 e.2 ≤ 1 := by unfold stepS; split <;> (try split) <;> omega
      obtain ⟨hs1, hs2⟩ := hsb
      generalize stepS y e.1 e.2 = s at *
      generalize crsE y e.1 e.2 = ce at *
      clear hp1 hp2 hN hf
      obtain ⟨⟨ax, ay⟩, bx, bz⟩ := e
      dsimp only at c0 c1 c2 c3
      subst hA
      have C0 := Lib.hid c0
      have C1 := Lib.hid c1
      have C2 := Lib.hid c2
      have C3 := Lib.hid c3
      clear c0 c1 c2 c3
      have hkI : (k : Int) < (es.length : Int) := by omega
      have hkd : decide ((k : Int) < (es.length : Int)) = true := decide_eq_true hkI
      obtain ⟨wo, hwo⟩ : ∃ wo : World, wo = wr := ⟨_, rfl⟩
      subst hwo
      have cC0 := C0.out
      have cC1 := C1.out
      have cC2 := C2.out
      have cC3 := C3.out
      go_wp2_with fail
      clear cC0 cC1 cC2 cC3
      first | refine gen_calls ?_ | refine gen_code ?_ | refine gen_list ?_
      intro w5 hW
      obtain ⟨hb, hP⟩ := new1 hW
      clear hW
      replace X := Lib.hid (Ext.trans X.out hb)
      replace O := Lib.hid (own_ext O.out hb)
      replace C0 := Lib.hid (Cls.cell hb C0.out)
      replace C1 := Lib.hid (Cls.cell hb C1.out)
      replace C2 := Lib.hid (Cls.cell hb C2.out)
      replace C3 := Lib.hid (Cls.cell hb C3.out)
      clear hb
      have P := Lib.hid hP
      have lP := P.out.lt
      clear hP
      have cC0 := C0.out
      have cC1 := C1.out
      have cC2 := C2.out
      have cC3 := C3.out
      clear cC0 cC1 cC2 cC3
      have p0 := P.out.cell_of (i := 0) rfl
      have p1 := P.out.cell_of (i := 1) rfl
      have p2 := P.out.cell_of (i := 2) rfl
      have p3 := P.out.cell_of (i := 3) rfl
      go_wp2_with fail
      clear p0 p1 p2 p3
      refine (K1.out _).mono ?_
      rintro e w6 ⟨rfl, hb⟩
      replace X := Lib.hid (Ext.trans X.out hb)
      replace O := Lib.hid (own_ext O.out hb)
      replace P := Lib.hid (P.out.ext hb)
      have lP := P.out.lt
      clear hb
      have p0 := P.out.cell_of (i := 0) rfl
      have p1 := P.out.cell_of (i := 1) rfl
      have p2 := P.out.cell_of (i := 2) rfl
      have p3 := P.out.cell_of (i := 3) rfl
      by_cases hs : s = 0
      · have hb0 : (s != 0) = false := by simp [hs]
        have Hn : Hid (fs = crsL (es.take (k + 1)) y) := Lib.hid (by rw [Hst.out, HE0.out hs, List.append_nil])
        clear hs HE0 HE1 K2
        go_wp2
        go_roundw
        case rel => exact ⟨k + 1, A2, cap2, fs, by omega, by go_num, rfl, Hn.out, O.out, X.out⟩
        case measure => simp [intOf]; omega
      · have hb0 : (s != 0) = true := by simp [hs]
        have Hn : Hid (crsL (es.take (k + 1)) y = fs ++ [(((N : Nat) : Int), s)]) := Lib.hid (by rw [Hst.out, HE1.out hs])
        have HF2 := Lib.hid (HF.out hs)
        clear hs HE0 HE1 HF Hst
        clear p0 p1 p2 p3
        go_wp2_with fail
        go_loopw [10] (fun n wr => ∃ (a : Nat), a ≤ 48 ∧ n = .int .i64 a ∧ (∀ j : Nat, j < a → f (4 * (j : Int) + 2) = false) ∧ Has wr w1.heap.size 47 2 (.slice A2 fs.length cap2) fs.length (fs.flatMap ptC) ∧ Row wr wo.heap.size 68 [.int .i64 ax, .int .i64 ay, .int .i64 bx, .int .i64 bz] ∧ Below w1.heap.size w1 wr) (fun n _ => 48 - (intOf n).toNat)
        case atStart => exact ⟨0, Nat.zero_le _, rfl, (fun j hj => absurd hj (by omega)), O.out, P.out, X.out⟩
        case round =>
          obtain ⟨a, ha, rfl, hz, ho, hp, hbw⟩ := hrel
          clear O P X lP
          have O := Lib.hid ho
          have P := Lib.hid hp
          have X := Lib.hid hbw
          have Hz := Lib.hid hz
          clear ho hp hbw hz
          have lP := P.out.lt
          by_cases h48 : a < 48
          · have v1 : (a : Int) < 48 := by omega
            have v1d : decide ((a : Int) < 48) = true := decide_eq_true v1
            have v2d : decide (a < 48) = true := decide_eq_true h48
            have K2' := Lib.hid (fun W => K2.out (4 * (a : Int) + 2) W (by omega))
            have Hs : Hid (f (4 * (a : Int) + 2) = false → ∀ j : Nat, j < a + 1 → f (4 * (j : Int) + 2) = false) := Lib.hid (fun h j hj => by
              by_cases e : j = a
              · subst e; exact h
              · exact Hz.out j (by omega))
            have He : Hid (f (4 * (a : Int) + 2) = true → N = a) := Lib.hid (fun h => HF2.out a (by omega) Hz.out (.inr h))
            generalize f (4 * (a : Int) + 2) = v at *
            have q0 := P.out.cell_of (i := 0) rfl
            have q1 := P.out.cell_of (i := 1) rfl
            have q2 := P.out.cell_of (i := 2) rfl
            have q3 := P.out.cell_of (i := 3) rfl
            have Q0 := Lib.hid q0
            have Q1 := Lib.hid q1
            have Q2 := Lib.hid q2
            have Q3 := Lib.hid q3
            clear q0 q1 q2 q3
            have cQ0 := Q0.out
            have cQ1 := Q1.out
            have cQ2 := Q2.out
            have cQ3 := Q3.out
            have p0 := P.out.cell_of (i := 0) rfl
            have p1 := P.out.cell_of (i := 1) rfl
            have p2 := P.out.cell_of (i := 2) rfl
            have p3 := P.out.cell_of (i := 3) rfl
            go_wp2_with fail
            refine wp_region_calm [0,1,2,3,4,5,6,7,8,9] [] (by kernel_rfl) (by kernel_rfl) ?_
            (first | (refine calm_yes rfl rfl (fun w' hC => (by have cQ0 := hC.cell cQ0; have cQ1 := hC.cell cQ1; have cQ2 := hC.cell cQ2; have cQ3 := hC.cell cQ3; have p0 := hC.cell p0; have p1 := hC.cell p1; have p2 := hC.cell p2; have p3 := hC.cell p3; go_simp; rfl)) (fun K hK => ?_); go_simp; refine hK _ ?_; clear hK K) | (refine calm_no rfl rfl (fun K hK => ?_); go_simp; refine hK _ ?_; clear hK K))
            (first | (refine calm_yes rfl rfl (fun w' hC => (by have cQ0 := hC.cell cQ0; have cQ1 := hC.cell cQ1; have cQ2 := hC.cell cQ2; have cQ3 := hC.cell cQ3; have p0 := hC.cell p0; have p1 := hC.cell p1; have p2 := hC.cell p2; have p3 := hC.cell p3; go_simp; rfl)) (fun K hK => ?_); go_simp; refine hK _ ?_; clear hK K) | (refine calm_no rfl rfl (fun K hK => ?_); go_simp; refine hK _ ?_; clear hK K))
            (first | (refine calm_yes rfl rfl (fun w' hC => (by have cQ0 := hC.cell cQ0; have cQ1 := hC.cell cQ1; have cQ2 := hC.cell cQ2; have cQ3 := hC.cell cQ3; have p0 := hC.cell p0; have p1 := hC.cell p1; have p2 := hC.cell p2; have p3 := hC.cell p3; go_simp; rfl)) (fun K hK => ?_); go_simp; refine hK _ ?_; clear hK K) | (refine calm_no rfl rfl (fun K hK => ?_); go_simp; refine hK _ ?_; clear hK K))
            (first | (refine calm_yes rfl rfl (fun w' hC => (by have cQ0 := hC.cell cQ0; have cQ1 := hC.cell cQ1; have cQ2 := hC.cell cQ2; have cQ3 := hC.cell cQ3; have p0 := hC.cell p0; have p1 := hC.cell p1; have p2 := hC.cell p2; have p3 := hC.cell p3; go_simp; rfl)) (fun K hK => ?_); go_simp; refine hK _ ?_; clear hK K) | (refine calm_no rfl rfl (fun K hK => ?_); go_simp; refine hK _ ?_; clear hK K))
            (first | (refine calm_yes rfl rfl (fun w' hC => (by have cQ0 := hC.cell cQ0; have cQ1 := hC.cell cQ1; have cQ2 := hC.cell cQ2; have cQ3 := hC.cell cQ3; have p0 := hC.cell p0; have p1 := hC.cell p1; have p2 := hC.cell p2; have p3 := hC.cell p3; go_simp; rfl)) (fun K hK => ?_); go_simp; refine hK _ ?_; clear hK K) | (refine calm_no rfl rfl (fun K hK => ?_); go_simp; refine hK _ ?_; clear hK K))
            (first | (apply calm_call rfl rfl rfl Try.func42 (by kernel_rfl) rfl (by go_simp; rfl); exact (fun w' hC => ext_of_same (K3.out (a : Int) w' (by omega))); intro K hK; go_simp; refine hK _ ?_; clear hK K) | (refine calm_no rfl rfl (fun K hK => ?_); go_simp; refine hK _ ?_; clear hK K))
            (first | (refine calm_yes rfl rfl (fun w' hC => (by have cQ0 := hC.cell cQ0; have cQ1 := hC.cell cQ1; have cQ2 := hC.cell cQ2; have cQ3 := hC.cell cQ3; have p0 := hC.cell p0; have p1 := hC.cell p1; have p2 := hC.cell p2; have p3 := hC.cell p3; go_simp; rfl)) (fun K hK => ?_); go_simp; refine hK _ ?_; clear hK K) | (refine calm_no rfl rfl (fun K hK => ?_); go_simp; refine hK _ ?_; clear hK K))
            (first | (apply calm_call rfl rfl rfl Try.func45 (by kernel_rfl) rfl (by go_simp; rfl); exact (fun w' hC => K2'.out w'); intro K hK; go_simp; refine hK _ ?_; clear hK K) | (refine calm_no rfl rfl (fun K hK => ?_); go_simp; refine hK _ ?_; clear hK K))
            (first | (refine calm_yes rfl rfl (fun w' hC => (by have cQ0 := hC.cell cQ0; have cQ1 := hC.cell cQ1; have cQ2 := hC.cell cQ2; have cQ3 := hC.cell cQ3; have p0 := hC.cell p0; have p1 := hC.cell p1; have p2 := hC.cell p2; have p3 := hC.cell p3; go_simp; rfl)) (fun K hK => ?_); go_simp; refine hK _ ?_; clear hK K) | (refine calm_no rfl rfl (fun K hK => ?_); go_simp; refine hK _ ?_; clear hK K))
            (first | (refine calm_yes rfl rfl (fun w' hC => (by have cQ0 := hC.cell cQ0; have cQ1 := hC.cell cQ1; have cQ2 := hC.cell cQ2; have cQ3 := hC.cell cQ3; have p0 := hC.cell p0; have p1 := hC.cell p1; have p2 := hC.cell p2; have p3 := hC.cell p3; go_simp; rfl)) (fun K hK => ?_); go_simp; refine hK _ ?_; clear hK K) | (refine calm_no rfl rfl (fun K hK => ?_); go_simp; refine hK _ ?_; clear hK K))
            refine calm_done (fun w7 hb => ?_)
            clear cQ0 cQ1 cQ2 cQ3 p0 p1 p2 p3
            replace X := Lib.hid (Ext.trans X.out hb)
            replace O := Lib.hid (own_ext O.out hb)
            replace P := Lib.hid (P.out.ext hb)
            have lP := P.out.lt
            replace Q0 := Lib.hid (Cls.cell hb Q0.out)
            replace Q1 := Lib.hid (Cls.cell hb Q1.out)
            replace Q2 := Lib.hid (Cls.cell hb Q2.out)
            replace Q3 := Lib.hid (Cls.cell hb Q3.out)
            clear hb
            have cQ0 := Q0.out
            have cQ1 := Q1.out
            have cQ2 := Q2.out
            have cQ3 := Q3.out
            have p0 := P.out.cell_of (i := 0) rfl
            have p1 := P.out.cell_of (i := 1) rfl
            have p2 := P.out.cell_of (i := 2) rfl
            have p3 := P.out.cell_of (i := 3) rfl
            clear cQ0 cQ1 cQ2 cQ3 p0 p1 p2 p3
            clear Q0 Q1 Q2 Q3
            cases v
            · have Hn2 := Lib.hid (Hs.out rfl)
              clear Hs He
              go_wp2
              go_roundw
              case rel => exact ⟨a + 1, by omega, by go_num, Hn2.out, O.out, P.out, X.out⟩
              case measure => simp [intOf]; omega
            · have Hn2 := Lib.hid (He.out rfl)
              clear Hs He K2'
              have Hn3 : Hid (fs ++ [((a : Int), s)] = crsL (es.take (k + 1)) y) := Lib.hid (by rw [Hn.out, Hn2.out])
              have hz7 : w1.heap.size ≤ w7.heap.size := X.out.size
              clear Hn2 Hn HF2 K2 K3 K1
              go_wp2_with (at_builtin; refine wpList_app (base := w1.heap.size) ei_cross rfl (.tmp 37) (.tmp 41) rfl rfl (own_ext O.out (ext_alloc _ _)) rfl (src_new _ _ [_, _] (m := 1) rfl (by intro u hu; simp only [List.mem_cons, List.not_mem_nil, or_false] at hu; rcases hu with rfl | rfl <;> rfl)) (by omega) (by simp; omega) ?_; intro ve w8 hown hg hat; refine stop_in ?_)
              refine stop_out ?_
              obtain ⟨A3, cap3, hve⟩ := own_form hown
              replace X := Lib.hid (Below.grown (Ext.trans X.out (ext_alloc _ _)) hg (by simp; omega) (fun k hk => by have := (O.out.lt k hk).1; omega))
              replace P := Lib.hid ((P.out.ext (ext_alloc _ _)).grownNe (own_ext O.out (ext_alloc _ _)) (by decide) hg)
              have lP := P.out.lt
              have heq : fs ++ [((a : Int), s)] = (fs ++ [((a : Int), s)]) := rfl
              replace O : Hid (Has w8 w1.heap.size 47 2 (.slice A3 ((fs ++ [((a : Int), s)])).length cap3) ((fs ++ [((a : Int), s)])).length (((fs ++ [((a : Int), s)])).flatMap ptC)) := Lib.hid (by
                have q := hown
                rw [hve] at q
                rw [← heq, List.flatMap_append, List.length_append]
                exact q)
              have hvf : ve = .slice A3 ((fs ++ [((a : Int), s)])).length cap3 := by rw [hve, ← heq, List.length_append]; rfl
              clear hve
              clear hown hg hat heq
              subst hvf
              have p0 := P.out.cell_of (i := 0) rfl
              have p1 := P.out.cell_of (i := 1) rfl
              have p2 := P.out.cell_of (i := 2) rfl
              have p3 := P.out.cell_of (i := 3) rfl
              go_wp2
              go_roundw
              case rel => exact ⟨k + 1, A3, cap3, _, by omega, by go_num, rfl, Hn3.out, O.out, X.out⟩
              case measure => simp [intOf]; omega
          · have h48' : a = 48 := by omega
            have Hn2 : Hid (N = a) := Lib.hid (HF2.out a (by omega) Hz.out (.inl h48'))
            have v1 : ¬ (a : Int) < 48 := by omega
            have v1d : decide ((a : Int) < 48) = false := decide_eq_false v1
            have v2d : decide (a < 48) = false := decide_eq_false h48
            clear h48'
            go_wp2_with fail
            refine wp_region_calm [0,1,2,3,4,5,6,7,8,9] [] (by kernel_rfl) (by kernel_rfl) ?_
            (first | (refine calm_yes rfl rfl (fun w' hC => (by go_simp; rfl)) (fun K hK => ?_); go_simp; refine hK _ ?_; clear hK K) | (refine calm_no rfl rfl (fun K hK => ?_); go_simp; refine hK _ ?_; clear hK K))
            (first | (refine calm_yes rfl rfl (fun w' hC => (by go_simp; rfl)) (fun K hK => ?_); go_simp; refine hK _ ?_; clear hK K) | (refine calm_no rfl rfl (fun K hK => ?_); go_simp; refine hK _ ?_; clear hK K))
            (first | (refine calm_yes rfl rfl (fun w' hC => (by go_simp; rfl)) (fun K hK => ?_); go_simp; refine hK _ ?_; clear hK K) | (refine calm_no rfl rfl (fun K hK => ?_); go_simp; refine hK _ ?_; clear hK K))
            (first | (refine calm_yes rfl rfl (fun w' hC => (by go_simp; rfl)) (fun K hK => ?_); go_simp; refine hK _ ?_; clear hK K) | (refine calm_no rfl rfl (fun K hK => ?_); go_simp; refine hK _ ?_; clear hK K))
            (first | (refine calm_yes rfl rfl (fun w' hC => (by go_simp; rfl)) (fun K hK => ?_); go_simp; refine hK _ ?_; clear hK K) | (refine calm_no rfl rfl (fun K hK => ?_); go_simp; refine hK _ ?_; clear hK K))
            (first | (apply calm_call rfl rfl rfl Try.func42 (by kernel_rfl) rfl (by go_simp; rfl); exact (fun w' hC => ext_of_same (K3.out (a : Int) w' (by omega))); intro K hK; go_simp; refine hK _ ?_; clear hK K) | (refine calm_no rfl rfl (fun K hK => ?_); go_simp; refine hK _ ?_; clear hK K))
            (first | (refine calm_yes rfl rfl (fun w' hC => (by go_simp; rfl)) (fun K hK => ?_); go_simp; refine hK _ ?_; clear hK K) | (refine calm_no rfl rfl (fun K hK => ?_); go_simp; refine hK _ ?_; clear hK K))
            (first | (apply calm_call rfl rfl rfl Try.func45 (by kernel_rfl) rfl (by go_simp; rfl); exact (fun w' hC => K2.out 0 w' (by omega)); intro K hK; go_simp; refine hK _ ?_; clear hK K) | (refine calm_no rfl rfl (fun K hK => ?_); go_simp; refine hK _ ?_; clear hK K))
            (first | (refine calm_yes rfl rfl (fun w' hC => (by go_simp; rfl)) (fun K hK => ?_); go_simp; refine hK _ ?_; clear hK K) | (refine calm_no rfl rfl (fun K hK => ?_); go_simp; refine hK _ ?_; clear hK K))
            (first | (refine calm_yes rfl rfl (fun w' hC => (by go_simp; rfl)) (fun K hK => ?_); go_simp; refine hK _ ?_; clear hK K) | (refine calm_no rfl rfl (fun K hK => ?_); go_simp; refine hK _ ?_; clear hK K))
            refine calm_done (fun w7 hb => ?_)
            replace X := Lib.hid (Ext.trans X.out hb)
            replace O := Lib.hid (own_ext O.out hb)
            replace P := Lib.hid (P.out.ext hb)
            have lP := P.out.lt
            clear hb
            have p0 := P.out.cell_of (i := 0) rfl
            have p1 := P.out.cell_of (i := 1) rfl
            have p2 := P.out.cell_of (i := 2) rfl
            have p3 := P.out.cell_of (i := 3) rfl
            have Hn3 : Hid (fs ++ [((a : Int), s)] = crsL (es.take (k + 1)) y) := Lib.hid (by rw [Hn.out, Hn2.out])
            have hz7 : w1.heap.size ≤ w7.heap.size := X.out.size
            clear Hn2 Hn HF2 K2 K3 K1
            go_wp2_with (at_builtin; refine wpList_app (base := w1.heap.size) ei_cross rfl (.tmp 37) (.tmp 41) rfl rfl (own_ext O.out (ext_alloc _ _)) rfl (src_new _ _ [_, _] (m := 1) rfl (by intro u hu; simp only [List.mem_cons, List.not_mem_nil, or_false] at hu; rcases hu with rfl | rfl <;> rfl)) (by omega) (by simp; omega) ?_; intro ve w8 hown hg hat; refine stop_in ?_)
            refine stop_out ?_
            obtain ⟨A3, cap3, hve⟩ := own_form hown
            clear p0 p1 p2 p3
            replace X := Lib.hid (Below.grown (Ext.trans X.out (ext_alloc _ _)) hg (by simp; omega) (fun k hk => by have := (O.out.lt k hk).1; omega))
            replace P := Lib.hid ((P.out.ext (ext_alloc _ _)).grownNe (own_ext O.out (ext_alloc _ _)) (by decide) hg)
            have lP := P.out.lt
            have heq : fs ++ [((a : Int), s)] = (fs ++ [((a : Int), s)]) := rfl
            replace O : Hid (Has w8 w1.heap.size 47 2 (.slice A3 ((fs ++ [((a : Int), s)])).length cap3) ((fs ++ [((a : Int), s)])).length (((fs ++ [((a : Int), s)])).flatMap ptC)) := Lib.hid (by
              have q := hown
              rw [hve] at q
              rw [← heq, List.flatMap_append, List.length_append]
              exact q)
            have hvf : ve = .slice A3 ((fs ++ [((a : Int), s)])).length cap3 := by rw [hve, ← heq, List.length_append]; rfl
            clear hve
            clear hown hg hat heq
            subst hvf
            have p0 := P.out.cell_of (i := 0) rfl
            have p1 := P.out.cell_of (i := 1) rfl
            have p2 := P.out.cell_of (i := 2) rfl
            have p3 := P.out.cell_of (i := 3) rfl
            go_wp2
            go_roundw
            case rel => exact ⟨k + 1, A3, cap3, _, by omega, by go_num, rfl, Hn3.out, O.out, X.out⟩
            case measure => simp [intOf]; omega
    · have hk' : k = es.length := by omega
      have Hz : Hid (srtC fs = S) := Lib.hid (by rw [Hfs.out, hk', List.take_length, HS.out])
      have hkd : decide ((k : Int) < (es.length : Int)) = false := decide_eq_false (by omega)
      clear hk'
      go_wp2_with fail
      refine (c_sortC O.out (by omega)).mono ?_
      rintro e w8 ⟨rfl, ho8, hg8⟩
      have X8 := own_below X.out O.out hg8 hzr
      have hsl : (srtC fs).length = fs.length := srtC_len fs
      replace O := Lib.hid ho8
      replace E := Lib.hid (Ext.trans E.out X8)
      clear ho8 hg8 X8
      go_wp2_with fail
      refine (c_ClipC A2 fs.length cap2 _ O.out.slok).mono ?_
      rintro e w' ⟨rfl, rfl⟩
      go_wp2
      go_ret
      rw [← Hz.out]
      exact ⟨A2, fs.length, by rw [hsl]; rfl, by rw [hsl]; exact O.out.clip.rebase (by omega), E.out⟩
set_option maxRecDepth 100000 in
set_option maxHeartbeats 4000000 in
theorem c_sCrossesOf (A : Option Addr) (cap : Nat) (rs : List Rg) (row : Int) (w : World) (h : Rgs w A rs) (hl : rs.length ≤ 1000000000) (hs : ∀ r ∈ rs, r.length ≤ 1000000000) :
    Calls Try.prog 6 #[.slice A rs.length cap, .int .i64 row] w fun e w' => RetP 47 w (crossR rs row) e w' := by
  have K0 := Lib.hid (fun W (hW : Rgs W A rs) => c_sValidRings A cap rs W hW hl hs)
  have H := Lib.hid h
  clear h hs
  obtain ⟨S, hS⟩ : ∃ S, crossR rs row = S := ⟨_, rfl⟩
  rw [hS]
  obtain ⟨d1, hd1⟩ : ∃ d, rgsB rs = d := ⟨_, rfl⟩
  obtain ⟨d2, hd2⟩ : ∃ d, inB row 0 47 = d := ⟨_, rfl⟩
  have HS : Hid (S = if (d1 && d2) = true then srtC (crsL (edgesS rs) (4 * row + 2)) else []) := Lib.hid (by rw [← hS]; unfold crossR; rw [hd1, hd2])
  have Hno : Hid (∀ b, (d1 && d2) = b → b = false → S = []) := Lib.hid (fun b h1 h2 => by rw [HS.out, h1, h2]; rfl)
  have H1 := Lib.hid hd1
  have H2 := Lib.hid hd2
  have E := Lib.hid (Below.refl w.heap.size w)
  clear hS hd1 hd2
  go_enter Try.func6, Try.ntmps6
  go_wp2_with fail
  refine (K0.out _ H.out).mono ?_
  rw [H1.out]
  rintro e w1 ⟨rfl, hb⟩
  replace E := Lib.hid (Ext.trans E.out hb)
  replace H := Lib.hid (H.out.ext rgR_stab hb)
  clear hb
  cases d1
  · have Hf := Lib.hid (Hno.out _ rfl (by simp))
    go_wp2
    go_ret
    exact RetP.none Hf.out E.out
  · go_wp2_with fail
    refine (c_inRange row 0 47 _).mono ?_
    rw [H2.out]
    rintro e w' ⟨rfl, rfl⟩
    cases d2
    · have Hf := Lib.hid (Hno.out _ rfl (by simp))
      go_wp2
      go_ret
      exact RetP.none Hf.out E.out
    · have hb := inB_iff.1 H2.out
      obtain ⟨hb1, hb2⟩ := hb
      have Hv := Lib.hid H1.out
      have Hf : Hid (srtC (crsL (edgesS rs) (4 * row + 2)) = S) := Lib.hid (by rw [HS.out]; rfl)
      have hz2 := E.out.size
      go_wp2_with fail
      refine (c_scrossings A cap rs (4 * row + 2) _ H.out Hv.out (by omega)).mono ?_
      rw [Hf.out]
      rintro e w3 ⟨A', cap', rfl, ho, hb⟩
      have O := Lib.hid (ho.rebase hz2)
      replace E := Lib.hid (Ext.trans E.out hb)
      clear ho hb
      go_wp2
      go_ret
      exact ⟨A', cap', rfl, O.out, E.out⟩
set_option maxRecDepth 100000 in
set_option maxHeartbeats 4000000 in
theorem c_iCrossesOf (A : Option Addr) (cap : Nat) (rs : List Rg) (row : Int) (w : World) (h : Rgs w A rs) (hl : rs.length ≤ 1000000000) (hs : ∀ r ∈ rs, r.length ≤ 1000000000) :
    Calls Try.prog 8 #[.slice A rs.length cap, .int .i64 row] w fun e w' => RetP 47 w (crossR rs row) e w' := by
  have K0 := Lib.hid (fun W (hW : Rgs W A rs) => c_iValidRings A cap rs W hW hl hs)
  have H := Lib.hid h
  clear h hs
  obtain ⟨S, hS⟩ : ∃ S, crossR rs row = S := ⟨_, rfl⟩
  rw [hS]
  obtain ⟨d1, hd1⟩ : ∃ d, rgsB rs = d := ⟨_, rfl⟩
  obtain ⟨d2, hd2⟩ : ∃ d, inB row 0 47 = d := ⟨_, rfl⟩
  have HS : Hid (S = if (d1 && d2) = true then srtC (crsL (edgesS rs) (4 * row + 2)) else []) := Lib.hid (by rw [← hS]; unfold crossR; rw [hd1, hd2])
  have Hno : Hid (∀ b, (d1 && d2) = b → b = false → S = []) := Lib.hid (fun b h1 h2 => by rw [HS.out, h1, h2]; rfl)
  have H1 := Lib.hid hd1
  have H2 := Lib.hid hd2
  have E := Lib.hid (Below.refl w.heap.size w)
  clear hS hd1 hd2
  go_enter Try.func8, Try.ntmps8
  go_wp2_with fail
  refine (K0.out _ H.out).mono ?_
  rw [H1.out]
  rintro e w1 ⟨rfl, hb⟩
  replace E := Lib.hid (Ext.trans E.out hb)
  replace H := Lib.hid (H.out.ext rgR_stab hb)
  clear hb
  cases d1
  · have Hf := Lib.hid (Hno.out _ rfl (by simp))
    go_wp2
    go_ret
    exact RetP.none Hf.out E.out
  · go_wp2_with fail
    refine (c_isRow row _).mono ?_
    rw [H2.out]
    rintro e w' ⟨rfl, rfl⟩
    cases d2
    · have Hf := Lib.hid (Hno.out _ rfl (by simp))
      go_wp2
      go_ret
      exact RetP.none Hf.out E.out
    · have hb := inB_iff.1 H2.out
      obtain ⟨hb1, hb2⟩ := hb
      have Hv := Lib.hid H1.out
      have Hf : Hid (srtC (crsL (edgesS rs) (4 * row + 2)) = S) := Lib.hid (by rw [HS.out]; rfl)
      have hz2 := E.out.size
      go_wp2_with fail
      refine (c_icrosses A cap rs row _ H.out Hv.out (by omega)).mono ?_
      rw [Hf.out]
      rintro e w3 ⟨A', cap', rfl, ho, hb⟩
      have O := Lib.hid (ho.rebase hz2)
      replace E := Lib.hid (Ext.trans E.out hb)
      clear ho hb
      go_wp2
      go_ret
      exact ⟨A', cap', rfl, O.out, E.out⟩
end Go.Proofs.Yteknlifgejpjfaa
